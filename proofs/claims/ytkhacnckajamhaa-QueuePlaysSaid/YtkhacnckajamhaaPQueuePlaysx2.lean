-- Written by a program of this session (wip/bin/patch_print.py): a turned copy of the kit's printer. Not trusted: Lean checks it.
import Derived.Test.YtkhacnckajamhaaPQueuePlaysx0
import Derived.Test.YtkhacnckajamhaaPQueuePlaysx1
namespace Go.Proofs.Ytkhacnckajamhaa.PQueuePlays
open Go.RowKit Go.Proofs.YtkhacnckajamhaaW.PrintWords Go.Proofs.YtkhacnckajamhaaW.PrintLast Go.Proofs.YtkhacnckajamhaaW.PrintMore
attribute [local go_sem] max2_int min2_int max_two min_two max_three min_three max_four min_four   -- for this text's walks alone
set_option linter.unusedVariables false
set_option linter.unusedSimpArgs false

/-! ### inquestlaw19_QueuePlays: function 6 -/
theorem q_First_nil (w : World) : Calls Try.prog 15 #[.pointer none] w fun e w' => e = .returned (.tuple #[.int .i64 0, .bool false]) ∧ w = w' := by
  go_enter Try.func15, Try.ntmps15
  go_wp2
  go_ret2
  exact ⟨rfl, rfl⟩
theorem q_Put_nil (n : Int) (w : World) : Calls Try.prog 13 #[.pointer none, .int .i64 n] w fun e w' => e = .returned (.int .i64 1) ∧ w = w' := by
  go_enter Try.func13, Try.ntmps13
  go_wp2
  go_ret
  exact ⟨rfl, rfl⟩
theorem q_Done_nil (n : Int) (w : World) : Calls Try.prog 16 #[.pointer none, .int .i64 n] w fun e w' => e = .returned (.int .i64 1) ∧ w = w' := by
  go_enter Try.func16, Try.ntmps16
  go_wp2
  go_ret
  exact ⟨rfl, rfl⟩
theorem q_Len_nil (w : World) : Calls Try.prog 14 #[.pointer none] w fun e w' => e = .returned (.int .i64 0) ∧ w = w' := by
  go_enter Try.func14, Try.ntmps14
  go_wp2
  go_ret
  exact ⟨rfl, rfl⟩
theorem q_Waiting_nil (w : World) : Calls Try.prog 21 #[.pointer none] w fun e w' => e = .returned (.slice none 0 0) ∧ w = w' := by
  go_enter Try.func21, Try.ntmps21
  go_wp2
  go_ret
  exact ⟨rfl, rfl⟩
theorem q_Put_plain {base g : Nat} {v : Value} {xs : List Int} (n : Int) (w : World) (h : QS 53 base w g 0 v xs) : Calls Try.prog 13 #[.pointer (some ⟨g, 0, none⟩), .int .i64 n] w fun e w' => e = .returned (.int .i64 1) ∧ w = w' := by
  have hu := Try.underlying53
  have c0 := blk_cell h.blk 0
  simp only [List.getElem?_toArray, List.getElem?_cons_zero, List.getElem?_cons_succ] at c0
  clear h
  go_enter Try.func13, Try.ntmps13
  go_wp2
  go_ret
  exact ⟨rfl, rfl⟩
theorem q_Done_plain {base g : Nat} {v : Value} {xs : List Int} (n : Int) (w : World) (h : QS 53 base w g 0 v xs) : Calls Try.prog 16 #[.pointer (some ⟨g, 0, none⟩), .int .i64 n] w fun e w' => e = .returned (.int .i64 1) ∧ w = w' := by
  have hu := Try.underlying53
  have c0 := blk_cell h.blk 0
  simp only [List.getElem?_toArray, List.getElem?_cons_zero, List.getElem?_cons_succ] at c0
  clear h
  go_enter Try.func16, Try.ntmps16
  go_wp2
  go_ret
  exact ⟨rfl, rfl⟩
/-- First. -/
def firstV (xs : List Int) : Int := if xs.length = 0 then 0 else rd xs 0
theorem q_First {base g : Nat} {most : Int} {v : Value} {xs : List Int} (w : World) (h : QS 53 base w g most v xs) :
    Calls Try.prog 15 #[.pointer (some ⟨g, 0, none⟩)] w fun e w' => e = .returned (.tuple #[.int .i64 (firstV xs), .bool (decide (0 < xs.length))]) ∧ w = w' := by
  have hu := Try.underlying53
  obtain ⟨A, c, rfl⟩ := Kd.R_slice h.row
  obtain ⟨_, hcc, hC⟩ := Kd.R_reads' h.row
  have c1 := blk_cell h.blk 1
  simp only [List.getElem?_toArray, List.getElem?_cons_zero, List.getElem?_cons_succ] at c1
  clear h
  by_cases hx : xs.length = 0
  · have hb : ((xs.length : Int) == 0) = true := by simp [hx]
    rw [show firstV xs = 0 from if_pos hx, decide_eq_false (by omega)]
    clear hx
    go_enter Try.func15, Try.ntmps15
    go_wp2
    go_ret2
    exact ⟨rfl, rfl⟩
  · have hb : ((xs.length : Int) == 0) = false := beq_eq_false_iff_ne.mpr (by omega)
    rw [show firstV xs = rd xs 0 from if_neg hx, decide_eq_true (by omega)]
    have hp : (0 : Int) < (xs.length : Int) := by omega
    obtain ⟨ad, rfl, hy⟩ := Kd.at_int hC 0 (Int.le_refl _) hp
    rw [show ((0 : Int)).toNat = 0 from rfl, Addr.add_zero'] at hy
    have hq : (0 < xs.length) = True := eq_true (by omega)
    clear hx
    go_enter Try.func15, Try.ntmps15
    go_wp2
    go_ret2
    exact ⟨rfl, rfl⟩
theorem r_empty (w : World) : (Kd.scalar (Value.int .i64) (fun _ => rfl)).R 3 (w.alloc (.cells #[] 3)) w.heap.size (fun _ => True) (.slice (some ⟨w.heap.size, 0, none⟩) 0 0) [] := by
  refine Kd.R_of_own ⟨rfl, .inr ⟨w.heap.size, 0, #[], rfl, Nat.le_refl _, blk_new w _, Nat.le_refl _, Nat.zero_le _, rfl, rfl⟩⟩ (fun _ _ => trivial)
theorem q_nil (W : World) (A : Option Addr) (n c n' c' : Nat) : (binOp .eql 30 (.slice A n c) (.slice none n' c')).run Try.prog W = .ok (.bool A.isNone) W := Lib.run_eql_slice_nil W 30 3 A n c n' c' Try.underlying30
theorem q_Clone_nil (w : World) : Calls Try.prog 27 #[.slice none 0 0] w fun e w' => e = .returned (.slice none 0 0) ∧ w = w' := by
  have hq := q_nil
  go_enter Try.func27, Try.ntmps27
  go_wp2
  go_ret
  exact ⟨rfl, rfl⟩
theorem q_Waiting_new {base g : Nat} {most : Int} {xs : List Int} (w : World) (h : QS 53 base w g most (.slice none 0 0) xs) :
    Calls Try.prog 21 #[.pointer (some ⟨g, 0, none⟩)] w fun e w' => e = .returned (.slice none 0 0) ∧ w = w' := by
  have hu := Try.underlying53
  have c1 := blk_cell h.blk 1
  simp only [List.getElem?_toArray, List.getElem?_cons_zero, List.getElem?_cons_succ] at c1
  clear h
  go_enter Try.func21, Try.ntmps21
  go_wp2_with (go_at_call 27; (with_reducible refine (q_Clone_nil _).mono ?_); rintro e w' ⟨rfl, rfl⟩)
  go_ret
  exact ⟨rfl, rfl⟩
set_option maxHeartbeats 1000000 in
/-- Clone. -/
theorem q_Clone {base : Nat} {v : Value} {xs : List Int} (w : World) (h : (Kd.int .i64).R 3 w base (fun _ => True) v xs) (hl : xs.length ≤ 1000000) :
    Calls Try.prog 27 #[v] w fun e w' => ∃ v', e = .returned v' ∧ (Kd.int .i64).R 3 w' w.heap.size (fun _ => True) v' xs ∧ Below w.heap.size w w' := by
  have hq := q_nil
  obtain ⟨A, c, rfl⟩ := Kd.R_slice h
  obtain ⟨_, hcc, hC⟩ := Kd.R_reads' h
  have hC' := Aside0.mk hC
  cases A with
  | none =>
    have hx : xs = [] := by
      cases xs with
      | nil => rfl
      | cons x xs => obtain ⟨ad, e, _⟩ := Kd.at_int hC 0 (by omega) (by simp); cases e
    subst hx
    clear hC h
    go_enter Try.func27, Try.ntmps27
    go_wp2
    exact bodyPost_ret (v := .slice none 0 0) (by simp [results, Try.results27, go_sem]) rfl ⟨_, rfl, Kd.R_nil _ _ _ _ _, Below.refl _ _⟩
  | some ad =>
    clear hC h
    go_enter Try.func27, Try.ntmps27
    go_wp2_with (at_builtin; refine Kd.R_append_row (Value.int .i64) 0 (h1 := fun _ => rfl) (w0 := w) w.heap.size rfl (.tmp 5) (.tmp 6) 30 3 (.int .i64 0) 8 rfl Try.underlying30 q_info3 rfl (by decide) (.slice (some ⟨w.heap.size, 0, none⟩) 0 0) [] xs (some ad) xs.length c (fun _ => True) rfl rfl (fun _ _ => trivial) (r_empty _) (Kd.C_alloc hC'.out _) (below_alloc (Below.refl _ w) _) (by simp) (by rw [List.length_nil]; omega) ?_; intro v1 w1 hR hB hg hat; rw [List.nil_append] at hR; replace hR := Aside0.mk hR; replace hB := Aside0.mk hB; clear hg hat)
    exact bodyPost_ret (v := v1) (by simp [results, Try.results27, go_sem]) rfl ⟨_, rfl, hR.out, hB.out⟩
theorem q_Waiting {base g : Nat} {most : Int} {v : Value} {xs : List Int} (w : World) (h : QS 53 base w g most v xs) (hl : xs.length ≤ 1000000) :
    Calls Try.prog 21 #[.pointer (some ⟨g, 0, none⟩)] w fun e w' => ∃ v', e = .returned v' ∧ (Kd.int .i64).R 3 w' w.heap.size (fun _ => True) v' xs ∧ Below w.heap.size w w' := by
  have hu := Try.underlying53
  have hR := Aside0.mk h.row
  obtain ⟨A, c, rfl⟩ := Kd.R_slice h.row
  have c1 := blk_cell h.blk 1
  simp only [List.getElem?_toArray, List.getElem?_cons_zero, List.getElem?_cons_succ] at c1
  clear h
  go_enter Try.func21, Try.ntmps21
  go_wp2_with (go_at_call 27; (with_reducible refine (q_Clone _ hR.out hl).mono ?_); rintro e w' ⟨v', rfl, hR', hB'⟩; replace hR' := Aside0.mk hR'; replace hB' := Aside0.mk hB')
  exact bodyPost_ret (v := v') (by simp [results, Try.results21, go_sem]) rfl ⟨_, rfl, hR'.out, hB'.out⟩
/-- A cell behind the row's end is written. -/
theorem r_behind {base g n c j : Nat} {W : World} {xs : List Int} {ok : Nat → Prop} (h : (Kd.int .i64).R 3 W base ok (.slice (some ⟨g, 0, none⟩) n c) xs) (hj : xs.length ≤ j) (u : Value) : (Kd.int .i64).R 3 (W.setCell ⟨g, j, none⟩ u) base ok (.slice (some ⟨g, 0, none⟩) n c) xs := by
  have ho := Kd.own_of_R h
  refine Kd.R_of_own ⟨ho.1, ?_⟩ h.1
  rcases ho.2 with ⟨hv, _⟩ | ⟨g', cap, cur, hv, h1, h2, h3, h4, h5, h6⟩
  · cases hv
  · injection hv with e1 e2 e3
    injection e1 with e1
    injection e1 with e1
    subst e1 e2 e3
    refine .inr ⟨g, c, cur.setIfInBounds j u, rfl, h1, blk_set h2 j u, h3, h4, by rw [Array.size_setIfInBounds]; exact h5, ?_⟩
    rw [Array.toList_setIfInBounds, List.take_set, List.set_eq_of_length_le (by rw [List.length_take]; omega)]; exact h6
theorem r_room {base g n c j : Nat} {W : World} {xs : List Int} {ok : Nat → Prop} (h : (Kd.int .i64).R 3 W base ok (.slice (some ⟨g, 0, none⟩) n c) xs) (hj : j < c) : (W.cell? ⟨g, j, none⟩).isSome = true ∧ W.frozen? ⟨g, j, none⟩ = false := by
  have ho := Kd.own_of_R h
  rcases ho.2 with ⟨hv, _⟩ | ⟨g', cap, cur, hv, h1, h2, h3, h4, h5, h6⟩
  · cases hv
  · injection hv with e1 e2 e3
    injection e1 with e1
    injection e1 with e1
    subst e1 e2 e3
    exact ⟨by rw [blk_cell h2 j, Array.getElem?_eq_getElem (by omega)]; rfl, blk_frozen h2 j⟩
theorem sg_trans {W W1 : World} {g : Nat} (h : W.drew.grownBy W1 (some g)) (j : Nat) (u : Value) : W.grownBy (W1.setCell ⟨g, j, none⟩ u) (some g) :=
  ⟨h.os, h.tape, h.output, by have := h.size; simpa [World.setCell] using this, fun k hk hne => (Below.heap_setCell _ _ _ _ (fun e => hne (by rw [e]))).trans (h.block k hk hne)⟩
theorem q_zero3 (w : World) : (zeroValue 3).run Try.prog w = .ok (.int .i64 0) w := by kernel_rfl
theorem q_size3 : (Try.prog.info? 3).map (·.size) = some 1 := by kernel_rfl
theorem q_addr (g k c : Nat) : (if c = k + 1 then some (⟨g, 0, none⟩ : Addr) else some ⟨g, k + 1, none⟩) = if c = k + 1 then some ⟨g, 0, none⟩ else (some (⟨g, 0, none⟩ : Addr)).map (·.add ((k + 1) * (Kd.int .i64).sz)) := by
  split
  · rfl
  · simp [Kd.int, Kd.scalar, add_plain]
set_option maxHeartbeats 4000000 in
theorem q_Delete {base g m c k : Nat} {xs : List Int} (w : World) (HR : (Kd.int .i64).R 3 w base (fun _ => True) (.slice (some ⟨g, 0, none⟩) (m + 1) c) xs) (hk : k ≤ m) (hbase : base ≤ w.heap.size) (hl : m ≤ 1000000) :
    Calls Try.prog 25 #[.slice (some ⟨g, 0, none⟩) (m + 1) c, .int .i64 k, .int .i64 ((k : Int) + 1)] w fun e w' => e = .returned (.slice (some ⟨g, 0, none⟩) m c) ∧ (Kd.int .i64).R 3 w' base (fun _ => True) (.slice (some ⟨g, 0, none⟩) m c) (xs.eraseIdx k) ∧ w.grownBy w' (some g) := by
  obtain ⟨hn, hnc, _⟩ := Kd.R_reads' HR
  have hel : (xs.eraseIdx k).length = m := by rw [List.length_eraseIdx, if_pos (by omega)]; omega
  have hR := Aside0.mk HR
  have hne := Aside0.mk hn
  have hel' := Aside0.mk hel
  have hne1 : ((k : Int) == (k : Int) + 1) = false := beq_eq_false_iff_ne.mpr (by omega)
  have p1 : (0 : Int) ≤ (k : Int) := by omega
  have p2 : (k : Int) ≤ (c : Int) := by omega
  have p3 : (k : Int) + 1 ≤ ((m + 1 : Nat) : Int) := by omega
  have p4 : (k : Int) + 1 ≤ (c : Int) := by omega
  have p5 : (0 : Int) ≤ (k : Int) + 1 := by omega
  have p6 : k ≤ c := by omega
  have p7 : k + 1 ≤ c := by omega
  have p8 : k + 1 ≤ m + 1 := by omega
  have p9 : m < c := by omega
  clear HR hn hel
  go_enter Try.func25, Try.ntmps25
  go_wp2_with fail
  go_region_law (refine Kd.R_delete_step (Kd.int .i64) (w0 := w.drew) base (by rfl) (.tmp 22) (.tmp 25) 30 3 rfl Try.underlying30 q_size3 (g := g) (n := m + 1) (c := c) (k := k) (m := m - k) (c2 := c - (k + 1)) (A := if c = k + 1 then some ⟨g, 0, none⟩ else some ⟨g, k + 1, none⟩) (by rfl) (by rfl) (q_addr g k c) (by omega) (Kd.R_drew hR.out) (Nat.lt_succ_of_le hk) (Below.refl _ _) hbase ?_; intro w1 hR1 hB1 hg1; rw [Nat.add_sub_cancel] at hR1 ⊢; have hcl : ∀ ty, (Builtin.clear_ #[30] ty #[.slice (some ⟨g, m, none⟩) 1 (c - m)]).run Try.prog w1 = .ok (.tuple #[]) (w1.setCells g m (List.replicate 1 (.int .i64 0))) := fun ty => Lib.run_clear_slice w1 30 3 ty (.int .i64 0) Try.underlying30 q_zero3 rfl rfl g m 1 (c - m) (by omega) (fun j hj => (r_room hR1 (by omega)).1) (fun j hj => (r_room hR1 (by omega)).2); replace hR1 := Aside0.mk hR1; replace hg1 := Aside0.mk hg1; clear hB1)
  go_wp2_with fail
  all_goals
    try (have hce : c = k + 1 := by assumption
         subst hce)
    go_ret
    exact ⟨rfl, r_behind (j := m) hR1.out (by rw [hel'.out]; exact Nat.le_refl _) (.int .i64 0), sg_trans hg1.out m (.int .i64 0)⟩
theorem qidx_in (v : Int) : ∀ (xs : List Int) (i : Int), v ∈ xs → ∃ k : Nat, qidx v xs i = i + k ∧ k < xs.length ∧ xs.eraseIdx k = xs.erase v
  | [], i, h => by simp at h
  | x :: xs, i, h => by
    by_cases e : v = x
    · subst e
      exact ⟨0, by unfold qidx; rw [if_pos rfl]; simp, by simp, by simp⟩
    · obtain ⟨k, h1, h2, h3⟩ := qidx_in v xs (i + 1) (by rcases List.mem_cons.1 h with h | h; exact absurd h e; exact h)
      refine ⟨k + 1, by unfold qidx; rw [if_neg e, h1]; push_cast; omega, by simp; omega, ?_⟩
      rw [List.erase_cons_tail (by simp; exact fun h => e h.symm), List.eraseIdx_cons_succ, h3]
theorem qidx_out (v : Int) : ∀ (xs : List Int) (i : Int), v ∉ xs → qidx v xs i = -1
  | [], i, h => rfl
  | x :: xs, i, h => by
    simp at h
    unfold qidx
    rw [if_neg h.1]; exact qidx_out v xs (i + 1) h.2
def doneE (xs : List Int) (job : Int) : Int := if job ∈ xs then 0 else 9
set_option maxHeartbeats 2000000 in
theorem q_Done {base g : Nat} {most : Int} {v : Value} {xs : List Int} {W : World} (job : Int) (h : QS 53 base W g most v xs) (hl : xs.length ≤ 1000000) (hm : most ≠ 0) :
    Calls Try.prog 16 #[.pointer (some ⟨g, 0, none⟩), .int .i64 job] W (QPost 53 base g most v xs W (.int .i64 (doneE xs job)) (xs.erase job)) := by
  have hu := Try.underlying53
  have hne := Kd.R_ne h.row h.blk (by decide)
  have hR := Aside0.mk h.row
  have hB := Aside0.mk h.blk
  have hg := Aside0.mk h.hg
  have hmb : (most == 0) = false := beq_eq_false_iff_ne.mpr hm
  by_cases hi : job ∈ xs
  · have hx : 0 < xs.length := by cases xs with | nil => simp at hi | cons x xs => simp
    obtain ⟨gr, c, rfl, _, _, _⟩ := Kd.R_form h.row hx
    obtain ⟨_, hcc, hC⟩ := Kd.R_reads' h.row
    have c0 := blk_cell h.blk 0
    have c1 := blk_cell h.blk 1
    simp only [List.getElem?_toArray, List.getElem?_cons_zero, List.getElem?_cons_succ] at c0 c1
    obtain ⟨k, e1, e2, e3⟩ := qidx_in job xs 0 hi
    rw [Int.zero_add] at e1
    rw [show doneE xs job = 0 from if_pos hi, ← e3]
    have hml := Kd.C_max hC
    obtain ⟨m, hm1⟩ : ∃ m, xs.length = m + 1 := ⟨xs.length - 1, by omega⟩
    have hbs : base ≤ W.heap.size := by have := blk_lt h.blk; have := h.hg; omega
    have hkm : k ≤ m := by omega
    have hmx : m ≤ 1000000 := by omega
    have hk0 : (0 : Int) ≤ (k : Int) := by omega
    have hk1 : (k : Int) ≤ 1000000 := by omega
    have hkb : decide ((k : Int) < 0) = false := decide_eq_false (by omega)
    have hix := Aside0.mk (q_Index (some ⟨gr, 0, none⟩) c xs job W hC)
    rw [e1, hm1] at hix
    rw [hm1] at hR hB c1 hne
    replace hne := Aside0.mk hne
    have hel : (xs.eraseIdx k).length = m := by rw [List.length_eraseIdx, if_pos e2]; omega
    replace hel := Aside0.mk hel
    clear hC hcc h hm hi hx e1 e2 e3 hml hm1 hl
    go_enter Try.func16, Try.ntmps16
    go_wp2_with (first | (go_at_call 24; (with_reducible refine hix.out.mono ?_); rintro e w' ⟨rfl, rfl⟩) | (go_at_call 25; (with_reducible refine (q_Delete _ hR.out hkm hbs hmx).mono ?_); rintro e w1 ⟨rfl, hR1, hg1⟩; have hk := blk_grown hB.out hg1 hne.out; have d1 : w1.cell? ⟨g, 1, none⟩ = some (.slice (some ⟨gr, 0, none⟩) (m + 1) c) := (blk_cell hk 1).trans rfl; have e1 := blk_frozen hk 1; replace hk := Aside0.mk hk; replace hR1 := Aside0.mk hR1; replace hg1 := Aside0.mk hg1))
    go_ret
    exact ⟨_, rfl, ⟨blk_put hk.out 1 _ rfl, Kd.R_set hR1.out hk.out (by decide) 1 _, hg.out⟩, Upd.set (Upd.of_grown hg1.out g) 1 _, .inl rfl⟩
  · obtain ⟨A, c, rfl⟩ := Kd.R_slice h.row
    obtain ⟨_, hcc, hC⟩ := Kd.R_reads' h.row
    have c0 := blk_cell h.blk 0
    have c1 := blk_cell h.blk 1
    simp only [List.getElem?_toArray, List.getElem?_cons_zero, List.getElem?_cons_succ] at c0 c1
    rw [show doneE xs job = 9 from if_neg hi, List.erase_of_not_mem hi]
    have hix := Aside0.mk (q_Index A c xs job W hC)
    rw [qidx_out job xs 0 hi] at hix
    clear hC hcc h hm hi hl hne
    go_enter Try.func16, Try.ntmps16
    go_wp2_with (first | (go_at_call 24; (with_reducible refine hix.out.mono ?_); rintro e w' ⟨rfl, rfl⟩))
    go_ret
    exact ⟨_, rfl, ⟨hB.out, hR.out, hg.out⟩, Upd.of_below (Below.refl _ _) _ _, .inl rfl⟩
theorem ri_move {W W1 : World} {base : Nat} {v : Value} {xs : List Int} (h : (Kd.int .i64).R 3 W base (fun _ => True) v xs) (hm : ∀ k, v.ownBlock = some k → W1.heap[k]? = W.heap[k]?) : (Kd.int .i64).R 3 W1 base (fun _ => True) v xs :=
  Kd.R_of_own (own_move (Kd.own_of_R h) hm) (fun _ _ => trivial)
theorem ri_upd {W W1 : World} {base g T : Nat} {cs : Array Value} {row : Option Nat} {v : Value} {xs : List Int} (h : (Kd.int .i64).R 3 W base (fun _ => True) v xs) (hb : W.heap[g]? = some (.cells cs T (0, 0))) (hT : 3 ≠ T) (hu : Upd W W1 g row) (hr : v.ownBlock = none ∨ v.ownBlock ≠ row) : (Kd.int .i64).R 3 W1 base (fun _ => True) v xs :=
  ri_move h (fun k hk => hu.block k (Kd.R_lt h k hk) (fun e => Kd.R_ne h hb hT (by rw [hk, e])) (fun e => by rcases hr with hr | hr; rw [hr] at hk; cases hk; exact hr (hk.trans e)))
theorem lies_apart {W : World} {base : Nat} {v v' u : Value} {xs : List Int} (hl : Lies W v v') (hu : (Kd.int .i64).R 3 W base (fun _ => True) u xs) (ha : v.ownBlock = none ∨ v.ownBlock ≠ u.ownBlock) : v'.ownBlock = none ∨ v'.ownBlock ≠ u.ownBlock := by
  rcases hl with e | ⟨b, e, hb⟩
  · rw [e]; exact ha
  · refine .inr (fun h => ?_)
    have := Kd.R_lt hu b (h.symm.trans e)
    omega
theorem apart_symm {u v : Value} (h : u.ownBlock = none ∨ u.ownBlock ≠ v.ownBlock) : v.ownBlock = none ∨ v.ownBlock ≠ u.ownBlock := by
  cases hv : v.ownBlock with
  | none => exact .inl rfl
  | some k =>
    refine .inr (fun e => ?_)
    rcases h with h | h
    · rw [h] at e; cases e
    · exact h (e.symm.trans hv.symm)
theorem f_New_ok (most : Int) (w : World) (h1 : 1 ≤ most) (h2 : most ≤ 8) :
    Calls Try.prog 17 #[.int .i64 most] w fun e w' => e = .returned (.tuple #[.pointer (some ⟨w.heap.size, 0, none⟩), .int .i64 0]) ∧ w' = w.alloc (.cells #[.int .i64 most, .slice none 0 0] 50) := by
  have hu := Try.underlying50
  go_enter Try.func17, Try.ntmps17
  go_wp2
  go_ret2
  exact ⟨rfl, rfl⟩
theorem f_New_err (most : Int) (w : World) (h : most < 1 ∨ 8 < most) :
    Calls Try.prog 17 #[.int .i64 most] w fun e w' => e = .returned (.tuple #[.pointer none, .int .i64 2]) ∧ w = w' := by
  rcases h with h | h
  · go_enter Try.func17, Try.ntmps17
    go_wp2
    go_ret2
    exact ⟨rfl, rfl⟩
  · have h' : ¬ most < 1 := by omega
    go_enter Try.func17, Try.ntmps17
    go_wp2
    go_ret2
    exact ⟨rfl, rfl⟩
def wout (v : Int) (xs : List Int) : List Int := xs.filter (fun x => x != v)
theorem wout_snoc (v : Int) (xs : List Int) (k : Nat) (h : k < xs.length) : wout v (xs.take (k + 1)) = if rd xs k != v then wout v (xs.take k) ++ [rd xs k] else wout v (xs.take k) := by
  have e : xs.take (k + 1) = xs.take k ++ [rd xs k] := by rw [List.take_succ_eq_append_getElem h]; simp [rd, h]
  unfold wout
  rw [e, List.filter_append]
  by_cases c : (rd xs k != v) = true <;> simp [List.filter_cons, c]
theorem wout_le (v : Int) (xs : List Int) : (wout v xs).length ≤ xs.length := List.length_filter_le _ _
set_option maxHeartbeats 1000000 in
theorem f_without (A : Option Addr) (c : Nat) (xs : List Int) (v : Int) (w : World) (hC : (Kd.int .i64).C w A xs.length xs) (hl : xs.length ≤ 1000000) :
    Calls Try.prog 26 #[.slice A xs.length c, .int .i64 v] w fun e w' => ∃ v', e = .returned v' ∧ (Kd.int .i64).R 3 w' w.heap.size (fun _ => True) v' (wout v xs) ∧ Below w.heap.size w w' := by
  have hC' := Aside0.mk hC
  clear hC
  go_enter Try.func26, Try.ntmps26
  go_wp2
  go_loopg [5, 6] xs.length (fun kk v5 v6 W => ∃ i : Nat, v6 = .int .i64 i ∧ Aside0 (kk + i = xs.length) ∧ Aside0 ((Kd.int .i64).R 3 W w.heap.size (fun _ => True) v5 (wout v (xs.take i))) ∧ Aside0 (Below w.heap.size w W))
  case atStart => exact ⟨0, rfl, ⟨rfl⟩, ⟨Kd.R_nil _ _ _ _ _⟩, ⟨Below.refl _ _⟩⟩
  case round =>
    obtain ⟨i, rfl, hk, hR, hB⟩ := hrel
    by_cases hil : i < xs.length
    · obtain ⟨j, rfl⟩ : ∃ j, gk = j + 1 := ⟨gk - 1, by have := hk.out; omega⟩
      have p0 : (0 : Int) ≤ (i : Int) := Int.natCast_nonneg i
      have p1 : (i : Int) < (xs.length : Int) := by omega
      obtain ⟨ad, ea, hxw⟩ := Kd.at_int hC'.out (i : Int) p0 p1
      subst ea
      simp only [Int.toNat_natCast] at hxw
      have hx := pw_cell_below hB.out hxw
      clear hxw
      have hs := wout_snoc v xs i hil
      have hwl := wout_le v (xs.take i)
      rw [List.length_take, Nat.min_eq_left (by omega)] at hwl
      by_cases hb : (rd xs (i : Int) != v) = true
      · rw [if_pos hb] at hs
        have hs' := Aside0.mk hs
        clear hs
        obtain ⟨A5, c5, rfl⟩ := Kd.R_slice hR.out
        go_wp2_with (at_builtin; refine Kd.R_append (Kd.int .i64) (w0 := w) w.heap.size rfl (.tmp 19) (.tmp 24) 30 3 (.int .i64 0) 8 rfl Try.underlying30 q_info3 rfl (by decide) (by omega) (.slice A5 (wout v (xs.take i)).length c5) (wout v (xs.take i)) (rd xs (i : Int)) [.int .i64 (rd xs (i : Int))] (fun _ => True) (fun _ => False) rfl rfl rfl (fun _ hk => hk.elim) (fun _ _ => trivial) hR.out hB.out hB.out.size (by omega) ?_; intro v2 w2 hR2 hb2 hg2 hat2; rw [← hs'.out] at hR2; replace hR2 := Aside0.mk hR2; replace hb2 := Aside0.mk hb2; clear hg2 hat2)
        go_roundg j
        case measure => omega
        case rel => exact ⟨i + 1, by go_num, ⟨by have := hk.out; omega⟩, hR2, hb2⟩
      · have hb' : (rd xs (i : Int) != v) = false := by simpa using hb
        rw [if_neg hb] at hs
        have hs' := Aside0.mk hs
        clear hs hb
        go_wp2
        go_roundg j
        case measure => omega
        case rel => exact ⟨i + 1, by go_num, ⟨by have := hk.out; omega⟩, ⟨by rw [hs'.out]; exact hR.out⟩, hB⟩
    · obtain rfl : i = xs.length := by have := hk.out; omega
      go_wp2
      refine bodyPost_ret (v := u5) (by simp [results, Try.results26, go_sem]) rfl ⟨_, rfl, ?_, hB.out⟩
      have := hR.out
      rwa [List.take_of_length_le (Nat.le_refl _)] at this
def fputE (most : Int) (xs : List Int) (job : Int) : Int := if job < 0 then 2 else if (wout job xs).length < xs.length then 10 else if (xs.length : Int) = most then 11 else 0
def fputL (most : Int) (xs : List Int) (job : Int) : List Int := if fputE most xs job = 0 then xs ++ [job] else xs
set_option maxHeartbeats 2000000 in
theorem f_Put {base g : Nat} {most : Int} {v : Value} {xs : List Int} {W : World} (job : Int) (h : QS 50 base W g most v xs) (hl : xs.length ≤ 1000000) :
    Calls Try.prog 19 #[.pointer (some ⟨g, 0, none⟩), .int .i64 job] W (QPost 50 base g most v xs W (.int .i64 (fputE most xs job)) (fputL most xs job)) := by
  have hu := Try.underlying50
  obtain ⟨A, c, rfl⟩ := Kd.R_slice h.row
  obtain ⟨_, hcc, hC⟩ := Kd.R_reads' h.row
  have hne := Aside0.mk (Kd.R_ne h.row h.blk (by decide))
  have c0 := blk_cell h.blk 0
  have c1 := blk_cell h.blk 1
  have f1 := blk_frozen h.blk 1
  simp only [List.getElem?_toArray, List.getElem?_cons_zero, List.getElem?_cons_succ] at c0 c1
  have hR := Aside0.mk h.row
  have hB := Aside0.mk h.blk
  have hg := Aside0.mk h.hg
  have hml := Kd.C_max hC
  have hC' := Aside0.mk hC
  have hwl := wout_le job xs
  have hbs : Aside0 (base ≤ W.heap.size) := ⟨by have := blk_lt h.blk; have := h.hg; omega⟩
  clear hC
  unfold fputL
  by_cases hj : job < 0
  · have hE : fputE most xs job = 2 := if_pos hj
    rw [hE, if_neg (by decide)]
    have hjb : decide (job < 0) = true := decide_eq_true hj
    clear hj hE h
    go_enter Try.func19, Try.ntmps19
    go_wp2
    go_ret
    exact ⟨_, rfl, ⟨hB.out, hR.out, hg.out⟩, Upd.of_below (Below.refl _ _) _ _, .inl rfl⟩
  · have hjb : decide (job < 0) = false := decide_eq_false hj
    by_cases hi : (wout job xs).length < xs.length
    · have hE : fputE most xs job = 10 := by unfold fputE; rw [if_neg hj, if_pos hi]
      rw [hE, if_neg (by decide)]
      have hib : ((wout job xs).length < xs.length) = True := eq_true hi
      clear hj hE h hi
      go_enter Try.func19, Try.ntmps19
      go_wp2_with fail
      go_region_held3 (fun W_ => W_.cell? ⟨g, 1, none⟩ = some (.slice A xs.length c)) (first | assumption | (show _ = _; assumption)) ((go_at_call 26; (with_reducible refine (f_without A c xs job _ (Kd.C_drew hC'.out) hl).mono ?_); rintro e w1 ⟨v', rfl, hR1, hb1⟩; obtain ⟨A1, c1', rfl⟩ := Kd.R_slice hR1; have d1 : w1.cell? ⟨g, 1, none⟩ = some (.slice A xs.length c) := (hb1.cell (blk_lt hB.out)).trans c1; replace hb1 := Aside0.mk hb1; clear hR1))
      go_wp2
      go_ret
      exact ⟨_, rfl, ⟨(hb1.out.block _ (blk_lt hB.out)).trans hB.out, Kd.R_below (Kd.R_drew hR.out) hb1.out, hg.out⟩, Upd.of_below ((Below.refl _ W).drew.trans hb1.out) _ _, .inl rfl⟩
    · have hib : ((wout job xs).length < xs.length) = False := eq_false hi
      have hfb : ((xs.length : Int) == most) = decide ((xs.length : Int) = most) := rfl
      have hb1' : ∀ w1 : World, Below W.drew.heap.size W.drew w1 → w1.heap[g]? = some (.cells #[.int .i64 most, .slice A xs.length c] 50 (0, 0)) ∧ (Kd.int .i64).R 3 w1 base (fun _ => True) (.slice A xs.length c) xs ∧ Below W.heap.size W w1 := fun w1 hb => ⟨(hb.block _ (blk_lt hB.out)).trans hB.out, Kd.R_below (Kd.R_drew hR.out) hb, (Below.refl _ W).drew.trans hb⟩
      replace hb1' := Aside0.mk hb1'
      by_cases hf : (xs.length : Int) = most
      · have hE : fputE most xs job = 11 := by unfold fputE; rw [if_neg hj, if_neg hi, if_pos hf]
        rw [hE, if_neg (by decide)]
        rw [decide_eq_true hf] at hfb
        clear hj hE h hi hf
        go_enter Try.func19, Try.ntmps19
        go_wp2_with fail
        go_region_held3 (fun W_ => W_.cell? ⟨g, 1, none⟩ = some (.slice A xs.length c)) (first | assumption | (show _ = _; assumption)) ((go_at_call 26; (with_reducible refine (f_without A c xs job _ (Kd.C_drew hC'.out) hl).mono ?_); rintro e w1 ⟨v', rfl, hR1, hb1⟩; obtain ⟨A1, c1', rfl⟩ := Kd.R_slice hR1; have d1 : w1.cell? ⟨g, 1, none⟩ = some (.slice A xs.length c) := (hb1.cell (blk_lt hB.out)).trans c1; replace hb1 := Aside0.mk hb1; clear hR1))
        go_wp2
        refine q_gen _ (fun W0 => W0.heap[g]? = some (.cells #[.int .i64 most, .slice A xs.length c] 50 (0, 0)) ∧ (Kd.int .i64).R 3 W0 base (fun _ => True) (.slice A xs.length c) xs ∧ Below W.heap.size W W0) (hb1'.out _ hb1.out) ?_
        clear c0 c1 f1 hB hR d1
        rintro W1 ⟨hB1, hR1, hb1⟩
        have c0 := blk_cell hB1 0
        have c1 := blk_cell hB1 1
        simp only [List.getElem?_toArray, List.getElem?_cons_zero, List.getElem?_cons_succ] at c0 c1
        replace hB1 := Aside0.mk hB1
        replace hR1 := Aside0.mk hR1
        replace hb1 := Aside0.mk hb1
        go_quiet (fail)
        go_wp2
        go_ret
        exact ⟨_, rfl, ⟨blk_drewN hB1.out _, Kd.R_drewN hR1.out _, hg.out⟩, Upd.of_below (pw_below_drewN hb1.out _) _ _, .inl rfl⟩
      · have hE : fputE most xs job = 0 := by unfold fputE; rw [if_neg hj, if_neg hi, if_neg hf]
        rw [hE, if_pos rfl]
        rw [decide_eq_false hf] at hfb
        clear hj hE h hi hf
        go_enter Try.func19, Try.ntmps19
        go_wp2_with fail
        go_region_held3 (fun W_ => W_.cell? ⟨g, 1, none⟩ = some (.slice A xs.length c)) (first | assumption | (show _ = _; assumption)) ((go_at_call 26; (with_reducible refine (f_without A c xs job _ (Kd.C_drew hC'.out) hl).mono ?_); rintro e w1 ⟨v', rfl, hR1, hb1⟩; obtain ⟨A1, c1', rfl⟩ := Kd.R_slice hR1; have d1 : w1.cell? ⟨g, 1, none⟩ = some (.slice A xs.length c) := (hb1.cell (blk_lt hB.out)).trans c1; replace hb1 := Aside0.mk hb1; clear hR1))
        go_wp2
        refine q_gen _ (fun W0 => W0.heap[g]? = some (.cells #[.int .i64 most, .slice A xs.length c] 50 (0, 0)) ∧ (Kd.int .i64).R 3 W0 base (fun _ => True) (.slice A xs.length c) xs ∧ Below W.heap.size W W0) (hb1'.out _ hb1.out) ?_
        clear c0 c1 f1 hB hR d1
        rintro W1 ⟨hB1, hR1, hb1⟩
        have c0 := blk_cell hB1 0
        have c1 := blk_cell hB1 1
        simp only [List.getElem?_toArray, List.getElem?_cons_zero, List.getElem?_cons_succ] at c0 c1
        replace hB1 := Aside0.mk hB1
        replace hR1 := Aside0.mk hR1
        replace hb1 := Aside0.mk hb1
        go_quiet (fail)
        refine q_gen _ (fun W0 => W0.heap[g]? = some (.cells #[.int .i64 most, .slice A xs.length c] 50 (0, 0)) ∧ (Kd.int .i64).R 3 W0 base (fun _ => True) (.slice A xs.length c) xs ∧ Below W.heap.size W W0) ⟨blk_drewN hB1.out _, Kd.R_drewN hR1.out _, pw_below_drewN hb1.out _⟩ ?_
        clear c0 c1 hB1 hR1 hb1
        rintro W1 ⟨hB1, hR1, hb1⟩
        have c1 := blk_cell hB1 1
        have f1 := blk_frozen hB1 1
        simp only [List.getElem?_toArray, List.getElem?_cons_zero, List.getElem?_cons_succ] at c1
        replace hbs : Aside0 (base ≤ W1.heap.size) := ⟨Nat.le_trans hbs.out hb1.size⟩
        replace hB1 := Aside0.mk hB1
        replace hR1 := Aside0.mk hR1
        replace hb1 := Aside0.mk hb1
        go_wp2_with (at_builtin; refine Kd.R_append (Kd.int .i64) (w0 := W1) base rfl (.tmp 34) (.tmp 36) 30 3 (.int .i64 0) 8 rfl Try.underlying30 q_info3 rfl (by decide) (by omega) (.slice A xs.length c) xs job [.int .i64 job] (fun _ => True) (fun _ => False) rfl rfl rfl (fun _ hk => hk.elim) (fun _ _ => trivial) hR1.out (Below.refl base W1) hbs.out (by omega) ?_; intro v1 w1 hR2 hb2 hg2 hat2; obtain ⟨A1, e0, rfl⟩ := Kd.R_slice hR2; rw [show (xs ++ [job]).length = xs.length + 1 from List.length_append] at hR2 hat2; have hk := blk_grown hB1.out hg2 hne.out; have d1 : w1.cell? ⟨g, 1, none⟩ = some (.slice A xs.length c) := (blk_cell hk 1).trans rfl; have e1 := blk_frozen hk 1; replace hk := Aside0.mk hk; replace hR2 := Aside0.mk hR2; replace hg2 := Aside0.mk hg2; replace hat2 := Aside0.mk hat2; clear hb2)
        go_ret
        exact ⟨_, rfl, ⟨blk_put hk.out 1 _ rfl, Kd.R_set hR2.out hk.out (by decide) 1 _, hg.out⟩, upd_trans hb1.out (Upd.set (Upd.of_grown hg2.out g) 1 _), lies_below hb1.out hat2.out⟩
/-- Where a row lies behind a call, which may be none then. -/
def LiesN (W : World) (v v' : Value) : Prop := ∀ k, v'.ownBlock = some k → v.ownBlock = some k ∨ W.heap.size ≤ k
theorem Lies.n {W : World} {v v' : Value} (h : Lies W v v') : LiesN W v v' := fun k hk => by
  rcases h with e | ⟨b, e, hb⟩
  · exact .inl (e ▸ hk)
  · rw [e] at hk; injection hk with hk; exact .inr (hk ▸ hb)
def QPostN (T base g : Nat) (most : Int) (v : Value) (W : World) (r : Value) (ys : List Int) (e : Ending) (W' : World) : Prop :=
  ∃ v', e = .returned r ∧ QS T base W' g most v' ys ∧ Upd W W' g v.ownBlock ∧ LiesN W v v'
def fdoneE (xs : List Int) (job : Int) : Int := if (wout job xs).length = xs.length then 9 else 0
def fdoneL (xs : List Int) (job : Int) : List Int := if (wout job xs).length = xs.length then xs else wout job xs
set_option maxHeartbeats 2000000 in
theorem f_Done {base g : Nat} {most : Int} {v : Value} {xs : List Int} {W : World} (job : Int) (h : QS 50 base W g most v xs) (hl : xs.length ≤ 1000000) :
    Calls Try.prog 20 #[.pointer (some ⟨g, 0, none⟩), .int .i64 job] W (QPostN 50 base g most v W (.int .i64 (fdoneE xs job)) (fdoneL xs job)) := by
  have hu := Try.underlying50
  obtain ⟨A, c, rfl⟩ := Kd.R_slice h.row
  obtain ⟨_, hcc, hC⟩ := Kd.R_reads' h.row
  have c1 := blk_cell h.blk 1
  have f1 := blk_frozen h.blk 1
  simp only [List.getElem?_toArray, List.getElem?_cons_zero, List.getElem?_cons_succ] at c1
  have hR := Aside0.mk h.row
  have hB := Aside0.mk h.blk
  have hg := Aside0.mk h.hg
  have hC' := Aside0.mk hC
  have hml := Kd.C_max hC
  have hbs : Aside0 (base ≤ W.heap.size) := ⟨by have := blk_lt h.blk; have := h.hg; omega⟩
  clear hC h
  unfold fdoneE fdoneL
  by_cases hi : (wout job xs).length = xs.length
  · rw [if_pos hi, if_pos hi]
    have hib : (((wout job xs).length : Int) == (xs.length : Int)) = true := by simp [hi]
    clear hi
    go_enter Try.func20, Try.ntmps20
    go_wp2_with ((go_at_call 26; (with_reducible refine (f_without A c xs job _ hC'.out hl).mono ?_); rintro e w1 ⟨v', rfl, hR1, hb1⟩; obtain ⟨A1, c1', rfl⟩ := Kd.R_slice hR1; have d1 : w1.cell? ⟨g, 1, none⟩ = some (.slice A xs.length c) := (hb1.cell (blk_lt hB.out)).trans c1; replace hb1 := Aside0.mk hb1; clear hR1))
    go_ret
    exact ⟨_, rfl, ⟨(hb1.out.block _ (blk_lt hB.out)).trans hB.out, Kd.R_below hR.out hb1.out, hg.out⟩, Upd.of_below hb1.out _ _, fun k hk => .inl hk⟩
  · rw [if_neg hi, if_neg hi]
    have hib : (((wout job xs).length : Int) == (xs.length : Int)) = false := beq_eq_false_iff_ne.mpr (by omega)
    clear hi
    go_enter Try.func20, Try.ntmps20
    go_wp2_with ((go_at_call 26; (with_reducible refine (f_without A c xs job _ hC'.out hl).mono ?_); rintro e w1 ⟨v', rfl, hR1, hb1⟩; obtain ⟨A1, c1', rfl⟩ := Kd.R_slice hR1; have d1 : w1.cell? ⟨g, 1, none⟩ = some (.slice A xs.length c) := (hb1.cell (blk_lt hB.out)).trans c1; have e1 : w1.frozen? ⟨g, 1, none⟩ = false := (hb1.frozen (blk_lt hB.out)).trans f1; replace hb1 := Aside0.mk hb1; replace hR1 := Aside0.mk hR1))
    go_ret
    have hk := (hb1.out.block _ (blk_lt hB.out)).trans hB.out
    exact ⟨_, rfl, ⟨blk_put hk 1 _ rfl, Kd.R_set (Kd.R_lower hR1.out hbs.out) hk (by decide) 1 _, hg.out⟩, Upd.set (Upd.of_below hb1.out g _) 1 _, fun k hk => .inr (Kd.R_base hR1.out k hk)⟩
/-! A region of open order, by one walk of the text's order and one relation over what is listed: the values are told once, the world by the listed calls alone. -/
section RegBy
variable {P : Program}
/-- Who fills a slot. -/
def rbW (l : List Oper) (t : Tmp) : Nat → Option Nat
  | 0 => none
  | k + 1 => if ((l[k]?).bind (·.dst)) = some t then some k else rbW l t k
def rbB (T : List (List Nat × List Nat)) : Nat → List Nat → List Nat
  | 0, B => B
  | k + 1, B => rbB T k (B ++ [upM B B.length (T.getD B.length ([], [])).1])
def rbBits (l : List Oper) : List Nat := rbB (rtab .any l.toArray).2 l.length []
def rbOk (l : List Oper) : Bool :=
  let T := (rtab .any l.toArray).2
  let B := rbBits l
  let O := List.range l.length
  waitsOk T B && baseOk T O && (lof T.length O (fun _ => false) == List.replicate l.length false) && Region.noSelect l.toArray &&
  O.all (fun i => match l[i]? with
    | some o => (o.looksAt l.toArray).all (fun t => match rbW l t l.length with
        | some j => (decide (j < i) && (B.getD i 0).testBit j) || (decide (i < j) && (B.getD j 0).testBit i)
        | none => true) && (match o.dst with | some t => rbW l t l.length == some i | none => true)
    | none => false)
/-- What an operation, carried out, comes to: its value, and the relation with it listed. -/
def rbUpon (P : Program) (C : (Nat → Bool) → World → Prop) (b : Nat → Bool) (i : Nat) (v : Value) : Result Next → Prop
  | .ok (.value u) w' => u = v ∧ C (up b i) w'
  | .ok .skip w' => undef = v ∧ C (up b i) w'
  | .ok (.enter f args) w' => Calls P f args w' (fun e w'' => e = .returned v ∧ C (up b i) w'')
  | _ => False
/-- Operation i, in the text's order: what it yields, in every world of the relation in which it is not listed and all that it waits for are. -/
def rbOp (P : Program) (B : List Nat) (C : (Nat → Bool) → World → Prop) (i : Nat) (o : Oper) (a : Act) (v : Value) : Prop :=
  ∀ b w, b i = false → (∀ j, j < i → (B.getD i 0).testBit j = true → b j = true) → C b w → rbUpon P C b i v ((execOp a.eval o).run P w)
def rbOff (C : (Nat → Bool) → World → Prop) (i : Nat) : Prop := ∀ b w, C b w → C (up b i) w
def rbL (P : Program) (ops : Array Oper) (B : List Nat) (C : (Nat → Bool) → World → Prop) (Q : Act → Prop) : Nat → List Oper → Act → Prop
  | _, [], a => Q a
  | i, o :: rest, a => if Region.wanted o (yielded ops a.tmps) = true then ∃ v, rbOp P B C i o a v ∧ rbL P ops B C Q (i + 1) rest (a.put o.dst v) else rbOff C i ∧ rbL P ops B C Q (i + 1) rest (a.put o.dst undef)
/-- The frame behind the first operations. -/
def rbFrame (a : Act) : List Oper → List Value → Act
  | o :: l, v :: vs => rbFrame (a.put o.dst v) l vs
  | _, _ => a
theorem rbL_vals {ops : Array Oper} {B : List Nat} {C : (Nat → Bool) → World → Prop} {Q : Act → Prop} : ∀ (rest : List Oper) (i : Nat) (a : Act), rbL P ops B C Q i rest a →
    ∃ vs : List Value, vs.length = rest.length ∧ Q (rbFrame a rest vs) ∧ ∀ k o v, rest[k]? = some o → vs[k]? = some v →
      (Region.wanted o (yielded ops (rbFrame a (rest.take k) (vs.take k)).tmps) = true ∧ rbOp P B C (i + k) o (rbFrame a (rest.take k) (vs.take k)) v) ∨
      (Region.wanted o (yielded ops (rbFrame a (rest.take k) (vs.take k)).tmps) = false ∧ v = undef ∧ rbOff C (i + k))
  | [], i, a, h => ⟨[], rfl, h, fun k o v hk => by simp at hk⟩
  | o :: rest, i, a, h => by
    unfold rbL at h
    by_cases hw : Region.wanted o (yielded ops a.tmps) = true
    · rw [if_pos hw] at h
      obtain ⟨v, h1, h2⟩ := h
      obtain ⟨vs, e1, e2, e3⟩ := rbL_vals rest (i + 1) _ h2
      refine ⟨v :: vs, by simp [e1], e2, fun k o' v' hk hv => ?_⟩
      cases k with
      | zero =>
        simp at hk hv
        subst hk hv
        exact .inl ⟨hw, h1⟩
      | succ k =>
        have := e3 k o' v' (by simpa using hk) (by simpa using hv)
        rw [show i + (k + 1) = i + 1 + k from by omega]
        exact this
    · rw [if_neg hw] at h
      obtain ⟨h1, h2⟩ := h
      obtain ⟨vs, e1, e2, e3⟩ := rbL_vals rest (i + 1) _ h2
      refine ⟨undef :: vs, by simp [e1], e2, fun k o' v' hk hv => ?_⟩
      cases k with
      | zero =>
        simp at hk hv
        subst hk hv
        exact .inr ⟨by simpa [rbFrame] using hw, rfl, h1⟩
      | succ k =>
        have := e3 k o' v' (by simpa using hk) (by simpa using hv)
        rw [show i + (k + 1) = i + 1 + k from by omega]
        exact this
/-- A slot, with these listed. -/
def rbSlot (l : List Oper) (vs : List Value) (a : Act) (b : Nat → Bool) (t : Tmp) : Option Value :=
  match rbW l t l.length with
  | some j => if b j = true then (if t < a.tmps.size then vs[j]? else none) else a.tmps[t]?
  | none => a.tmps[t]?
theorem rbW_lt {l : List Oper} {t : Tmp} : ∀ {n j : Nat}, rbW l t n = some j → j < n ∧ (l[j]?).bind (·.dst) = some t
  | 0, j, h => by cases h
  | n + 1, j, h => by
    unfold rbW at h
    by_cases c : ((l[n]?).bind (·.dst)) = some t
    · rw [if_pos c] at h
      obtain rfl := Option.some.inj h
      exact ⟨Nat.lt_succ_self _, c⟩
    · rw [if_neg c] at h
      obtain ⟨h1, h2⟩ := rbW_lt h
      exact ⟨by omega, h2⟩
theorem put_slot (a : Act) (d : Option Tmp) (v : Value) (t : Tmp) : (a.put d v).tmps[t]? = if d = some t then (if t < a.tmps.size then some v else none) else a.tmps[t]? := by
  cases d with
  | none => simp [Act.put]
  | some s =>
    simp only [Act.put, Array.getElem?_setIfInBounds]
    by_cases c : s = t
    · subst c; simp
    · simp [c]
theorem put_size (a : Act) (d : Option Tmp) (v : Value) : (a.put d v).tmps.size = a.tmps.size ∧ (a.put d v).defers = a.defers := by
  cases d with
  | none => exact ⟨rfl, rfl⟩
  | some s => exact ⟨by simp [Act.put], rfl⟩
theorem frame_snoc : ∀ (l : List Oper) (vs : List Value) (a : Act) (k : Nat) (o : Oper) (v : Value), l[k]? = some o → vs[k]? = some v → rbFrame a (l.take (k + 1)) (vs.take (k + 1)) = (rbFrame a (l.take k) (vs.take k)).put o.dst v
  | [], vs, a, k, o, v, h, _ => by simp at h
  | x :: l, [], a, k, o, v, _, h => by simp at h
  | x :: l, y :: vs, a, 0, o, v, h, hv => by
    simp at h hv; subst h hv; simp [rbFrame]
  | x :: l, y :: vs, a, k + 1, o, v, h, hv => by
    have := frame_snoc l vs (a.put x.dst y) k o v (by simpa using h) (by simpa using hv)
    simpa [rbFrame] using this
theorem frame_slot {l : List Oper} {vs : List Value} {a : Act} (hl : vs.length = l.length) (hu : ∀ i o t, l[i]? = some o → o.dst = some t → rbW l t l.length = some i) : ∀ k, k ≤ l.length →
    (rbFrame a (l.take k) (vs.take k)).tmps.size = a.tmps.size ∧ (rbFrame a (l.take k) (vs.take k)).defers = a.defers ∧ ∀ t, (rbFrame a (l.take k) (vs.take k)).tmps[t]? = rbSlot l vs a (fun j => decide (j < k)) t
  | 0, _ => by
    refine ⟨by simp [rbFrame], by simp [rbFrame], fun t => ?_⟩
    unfold rbSlot
    simp only [List.take_zero, rbFrame]
    cases rbW l t l.length <;> simp
  | k + 1, hk => by
    obtain ⟨h1, h2, h3⟩ := frame_slot hl hu k (by omega)
    obtain ⟨o, ho⟩ : ∃ o, l[k]? = some o := ⟨_, List.getElem?_eq_getElem (by omega)⟩
    obtain ⟨v, hv⟩ : ∃ v, vs[k]? = some v := ⟨_, List.getElem?_eq_getElem (by omega)⟩
    rw [frame_snoc l vs a k o v ho hv]
    refine ⟨(put_size _ _ _).1.trans h1, (put_size _ _ _).2.trans h2, fun t => ?_⟩
    rw [put_slot, h3 t, h1]
    unfold rbSlot
    by_cases c : o.dst = some t
    · rw [if_pos c, hu k o t ho c]; simp [hv]
    · rw [if_neg c]
      cases e : rbW l t l.length with
      | none => rfl
      | some j =>
        have hjk : j ≠ k := by
          rintro rfl
          have := (rbW_lt e).2
          rw [ho] at this
          exact c (by simpa using this)
        have : (j < k + 1) ↔ (j < k) := by omega
        simp only [this]
/-- Two frames that agree on what an operation looks at. -/
theorem agree {ops : Array Oper} {o : Oper} {a a' : Act} (hs : ∀ cs b, o.op ≠ .select cs b) (h : ∀ t ∈ o.looksAt ops, a.tmps[t]? = a'.tmps[t]?) :
    execOp a.eval o = execOp a'.eval o ∧ Region.wanted o (yielded ops a.tmps) = Region.wanted o (yielded ops a'.tmps) := by
  constructor
  · refine execOp_congr o hs (fun x hx => ?_)
    cases x with
    | tmp t =>
      have := h t (List.mem_append_left _ (List.mem_filterMap.2 ⟨.tmp t, by simpa using hx, rfl⟩))
      simp only [Act.eval, Array.getD_eq_getD_getElem?, this]
    | _ => rfl
  · unfold Region.wanted
    cases hg : o.guard with
    | none => rfl
    | some gw =>
      obtain ⟨g, want⟩ := gw
      have : yielded ops a.tmps g = yielded ops a'.tmps g := by
        unfold yielded
        cases hd : (ops[g]?).bind (·.dst) with
        | none => rfl
        | some t =>
          have := h t (List.mem_append_right _ (by rw [hg]; simp [hd]))
          simp only [Option.bind_some, this]
      simp only [this]
/-- THE REGION: by one walk of the text's order. -/
theorem region_by {id : Nat} {l : List Oper} {Q : Exit → Act → World → Prop} {a : Act} {w : World} (C : (Nat → Bool) → World → Prop) (hm : P.follows .mixedOrders = true) (hB : rbOk l = true) (hC : C (fun _ => false) w.drew)
    (h : rbL P l.toArray (rbBits l) C (fun a' => ∀ b w', (∀ i, i < l.length → b i = true) → C b w' → Q .normal a' w') 0 l a) : (Code.region id l.toArray true).wp P Q a w := by
  obtain ⟨vs, hl, hend, hops⟩ := rbL_vals l 0 a h
  simp only [rbOk, Bool.and_eq_true, beq_iff_eq, List.all_eq_true, List.mem_range] at hB
  obtain ⟨⟨⟨⟨hw, hk⟩, hlof⟩, hns⟩, hall⟩ := hB
  have hTl : (rtab .any l.toArray).2.length = l.length := by simp [rtab]
  have hu : ∀ i o t, l[i]? = some o → o.dst = some t → rbW l t l.length = some i := by
    intro i o t ho hd
    have hi := (List.getElem?_eq_some_iff.1 ho).1
    have := hall i hi
    rw [ho] at this
    simp only [hd, Bool.and_eq_true, beq_iff_eq] at this
    exact this.2
  refine start_ (n := l.length) (S := fun _ => True) (ds := []) (List.replicate l.length false).toArray hm (by simp) (by simp) trivial (fun _ => ?_)
  refine inv_ (List.range l.length) (fun b a' w' => C b w' ∧ a'.defers = a.defers ∧ a'.tmps.size = a.tmps.size ∧ ∀ t, a'.tmps[t]? = rbSlot l vs a b t) rfl hw hk (by simp [hlof]) ⟨hC, rfl, rfl, fun t => by unfold rbSlot; cases rbW l t l.length <;> rfl⟩ (fun i hi => ?_) (fun b a' w' hall' hI => ?_)
  · have hil : i < l.length := List.mem_range.1 hi
    rintro b a' w' ⟨hCb, hde, hsz, hsl⟩ hbi hon hoff
    obtain ⟨o, ho⟩ : ∃ o, l[i]? = some o := ⟨_, List.getElem?_eq_getElem hil⟩
    obtain ⟨v, hv⟩ : ∃ v, vs[i]? = some v := ⟨_, List.getElem?_eq_getElem (by omega)⟩
    refine ⟨o, by simpa using ho, fun K hK => ?_⟩
    obtain ⟨f1, f2, f3⟩ := frame_slot hl hu i (by omega) (a := a)
    have hsel : ∀ cs b, o.op ≠ .select cs b := fun cs b => Region.noSelect_spec hns i o cs b (by simpa using ho)
    have hchk := hall i hil
    rw [ho] at hchk
    simp only [Bool.and_eq_true, List.all_eq_true] at hchk
    have hin : ∀ j, j < l.length → (List.range l.length).contains j = true := fun j hj => by simp [hj]
    have hag : ∀ t ∈ o.looksAt l.toArray, a'.tmps[t]? = (rbFrame a (l.take i) (vs.take i)).tmps[t]? := by
      intro t ht
      rw [hsl t, f3 t]
      unfold rbSlot
      have hc := hchk.1 t ht
      cases e : rbW l t l.length with
      | none => rfl
      | some j =>
        rw [e] at hc
        simp only [Bool.or_eq_true, Bool.and_eq_true, decide_eq_true_eq] at hc
        have hjl := (rbW_lt e).1
        rcases hc with ⟨h1, h2⟩ | ⟨h1, h2⟩
        · have hb : b j = true := hon j (by rw [hin j hjl, h2]; rfl)
          simp only [hb, h1, decide_true]
        · have hb : b j = false := hoff j (by rw [hin j hjl, h2]; rfl)
          have h3 : ¬ j < i := by omega
          simp only [hb, h3, decide_false]
    obtain ⟨hex, hwt⟩ := agree (ops := l.toArray) hsel hag
    have hnext : ∀ (x : Value) w'', x = v → C (up b i) w'' → (C (up b i) w'' ∧ (a'.put o.dst x).defers = a.defers ∧ (a'.put o.dst x).tmps.size = a.tmps.size ∧ ∀ t, (a'.put o.dst x).tmps[t]? = rbSlot l vs a (up b i) t) := by
      rintro x w'' rfl hC'
      refine ⟨hC', (put_size _ _ _).2.trans hde, (put_size _ _ _).1.trans hsz, fun t => ?_⟩
      rw [put_slot, hsl t, hsz]
      unfold rbSlot
      by_cases c : o.dst = some t
      · rw [if_pos c, hu i o t ho c]; simp [up_self, hv]
      · rw [if_neg c]
        cases e : rbW l t l.length with
        | none => rfl
        | some j =>
          have hji : j ≠ i := by
            rintro rfl
            have := (rbW_lt e).2
            rw [ho] at this
            exact c (by simpa using this)
          simp only [up_ne hji]
    rcases hops i o v ho hv with ⟨hwn, hop⟩ | ⟨hwn, hvu, hofC⟩
    · rw [hwt, if_pos hwn]
      rw [Nat.zero_add] at hop
      have hr := hop b w' hbi (fun j hj hjb => hon j (by rw [hin j (by omega), hjb]; rfl)) hCb
      unfold Oper.wp
      rw [hex]
      generalize (execOp (rbFrame a (l.take i) (vs.take i)).eval o).run P w' = r at *
      cases r with
      | ok n w'' =>
        cases n <;> simp only [rbUpon] at hr <;> simp only [Oper.upon]
        case value u => exact hK _ _ (hnext _ _ hr.1 hr.2)
        case skip => exact hK _ _ (hnext _ _ hr.1 hr.2)
        case enter f args => exact hr.mono fun e w3 ⟨he, hC3⟩ => by subst he; exact hK _ _ (hnext _ _ rfl hC3)
      | halt x w'' => simp only [rbUpon] at hr
    · rw [hwt, if_neg (by rw [hwn]; simp)]
      rw [Nat.zero_add] at hofC
      exact hK _ _ (hnext _ _ hvu.symm (hofC b w' hCb))
  · obtain ⟨hCb, hde, hsz, hsl⟩ := hI
    have hb : ∀ i, i < l.length → b i = true := fun i hi => hall' i (by simp [hi])
    obtain ⟨f1, f2, f3⟩ := frame_slot hl hu l.length (Nat.le_refl _) (a := a)
    rw [List.take_of_length_le (Nat.le_refl _), List.take_of_length_le (by omega)] at f1 f2 f3
    have : a' = rbFrame a l vs := by
      have e1 : a'.tmps = (rbFrame a l vs).tmps := by
        apply Array.ext_getElem?
        intro t
        rw [hsl t, f3 t]
        unfold rbSlot
        cases e : rbW l t l.length with
        | none => rfl
        | some j => simp only [hb j (rbW_lt e).1, (rbW_lt e).1, decide_true]
      have e2 : a'.defers = (rbFrame a l vs).defers := hde.trans f2.symm
      cases a'; cases hr : rbFrame a l vs; rw [hr] at e1 e2; simp only at e1 e2; rw [e1, e2]
    rw [this]
    exact hend b w' hb hCb
section
variable {ops : Array Oper} {B : List Nat} {C : (Nat → Bool) → World → Prop} {Q : Act → Prop} {i : Nat} {o : Oper} {rest : List Oper} {a : Act} {v : Value}
theorem rb_want (hw : Region.wanted o (yielded ops a.tmps) = true) (h : ∃ v, rbOp P B C i o a v ∧ ∃ a', a.put o.dst v = a' ∧ rbL P ops B C Q (i + 1) rest a') : rbL P ops B C Q i (o :: rest) a := by
  obtain ⟨v, h1, _, rfl, h2⟩ := h; unfold rbL; rw [if_pos hw]; exact ⟨v, h1, h2⟩
theorem rb_skip (hw : Region.wanted o (yielded ops a.tmps) = false) (h1 : rbOff C i) (h : ∃ a', a.put o.dst undef = a' ∧ rbL P ops B C Q (i + 1) rest a') : rbL P ops B C Q i (o :: rest) a := by
  obtain ⟨_, rfl, h2⟩ := h; unfold rbL; rw [if_neg (by rw [hw]; simp)]; exact ⟨h1, h2⟩
theorem rb_done (h : Q a) : rbL P ops B C Q i [] a := h
theorem rb_pure (hE : rbOff C i) (h : ∀ b w, C b w → (execOp a.eval o).run P w = .ok (.value v) w) : rbOp P B C i o a v := fun b w _ _ hC => by
  rw [h b w hC]; exact ⟨rfl, hE b w hC⟩
theorem rb_void (hE : rbOff C i) (h : ∀ b w, C b w → (execOp a.eval o).run P w = .ok .skip w) : rbOp P B C i o a undef := fun b w _ _ hC => by
  rw [h b w hC]; exact ⟨rfl, hE b w hC⟩
theorem rb_call {f : FuncId} {args : Array Value} (hrun : ∀ w, (execOp a.eval o).run P w = .ok (.enter f args) w)
    (h : ∀ b w, b i = false → (∀ j, j < i → (B.getD i 0).testBit j = true → b j = true) → C b w → Calls P f args w fun e w' => e = .returned v ∧ C (up b i) w') : rbOp P B C i o a v := fun b w hb hon hC => by
  rw [hrun w]; exact h b w hb hon hC
theorem rb_enters {f : FuncId} {fn : Func} (hf : P.funcs[f]? = some fn) (hname : (fn.name == "runtime.NumGoroutine") = false) (hb : fn.body.isSome = true) {dst : Option Tmp} {xs : List Operand} {ats : Array TypeId} {ty : TypeId} {pos : String} {after : Array Edge} {guard : Option (Nat × Bool)} {args : List Value} (ha : xs.map a.eval = args) (w : World) :
    (execOp a.eval { dst, op := .call { callee := .value (.func f), args := xs.toArray, argTypes := ats }, type := ty, pos, after, guard }).run P w = .ok (.enter f args.toArray) w := by
  subst ha
  rw [execOp_call_go]
  have := enters_ hf hname hb (xs.map a.eval).toArray w
  simpa using this
end
end RegBy
set_option maxHeartbeats 1000000 in
theorem f_Ints (A B : Option Addr) (c d : Nat) (xs : List Int) (w : World) (hA : (Kd.int .i64).C w A xs.length xs) (hB : (Kd.int .i64).C w B xs.length xs) (hl : xs.length ≤ 1000000) :
    Calls Try.prog 22 #[.slice A xs.length c, .slice B xs.length d] w fun e w' => e = .returned (.bool true) ∧ ∃ n, w' = w.drewN n := by
  have hA' := Aside0.mk hA
  have hB' := Aside0.mk hB
  have hbb : ((xs.length : Int) != (xs.length : Int)) = false := by simp
  clear hA hB
  go_enter Try.func22, Try.ntmps22
  go_wp2
  go_loopg [5] xs.length (fun kk v5 W => ∃ (i m : Nat), v5 = .int .i64 i ∧ Aside0 (kk + i = xs.length) ∧ W = w.drewN m)
  case atStart => exact ⟨0, 0, rfl, ⟨rfl⟩, rfl⟩
  case round =>
    obtain ⟨i, m, rfl, hk, rfl⟩ := hrel
    by_cases hil : i < xs.length
    · obtain ⟨j, rfl⟩ : ∃ j, gk = j + 1 := ⟨gk - 1, by have := hk.out; omega⟩
      have p0 : (0 : Int) ≤ (i : Int) := Int.natCast_nonneg i
      have p1 : (i : Int) < (xs.length : Int) := by omega
      have p2 : (xs.length : Int) ≤ 1000000 := by omega
      obtain ⟨ad, ea, hx⟩ := Kd.at_int hA'.out (i : Int) p0 p1
      obtain ⟨ad2, eb, hy⟩ := Kd.at_int hB'.out (i : Int) p0 p1
      subst ea eb
      simp only [Int.toNat_natCast] at hx hy
      have hcc : (rd xs (i : Int) != rd xs (i : Int)) = false := by simp
      go_wp2
      go_quiet (fail)
      go_wp2
      go_roundg j
      case measure => omega
      case rel => exact ⟨i + 1, _, by go_num, ⟨by have := hk.out; omega⟩, rfl⟩
    · obtain rfl : i = xs.length := by have := hk.out; omega
      go_wp2
      go_ret
      exact ⟨rfl, m, rfl⟩
theorem f_few (A : Option Addr) (c n m : Nat) (w : World) (hn : n ≤ 9223372036854775807) (hm : m = if 100 < n then 100 else n) (hc : n ≤ c) :
    Calls Try.prog 18 #[.slice A n c] w fun e w' => e = .returned (.slice A m c) ∧ w = w' := by
  by_cases h : 100 < n
  · rw [if_pos h] at hm
    subst hm
    have hb : decide ((100 : Int) < (n : Int)) = true := decide_eq_true (by omega)
    go_enter Try.func18, Try.ntmps18
    go_wp2
    go_ret
    exact ⟨rfl, rfl⟩
  · rw [if_neg h] at hm
    subst hm
    have hb : decide ((100 : Int) < (m : Int)) = false := decide_eq_false (by omega)
    go_enter Try.func18, Try.ntmps18
    go_wp2
    go_ret
    exact ⟨rfl, rfl⟩
/-- Two queues: the program's holds xs, the document's ys. -/
structure PS (w W : World) (g1 g2 : Nat) (most : Int) (v1 v2 : Value) (xs ys : List Int) : Prop where
  q : QS 53 w.heap.size W g1 most v1 xs
  x : QS 50 w.heap.size W g2 most v2 ys
  ap : v1.ownBlock = none ∨ v1.ownBlock ≠ v2.ownBlock
  hB : Below w.heap.size w W
theorem lies_apartN {W : World} {base : Nat} {v v' u : Value} {xs : List Int} (hl : LiesN W v v') (hu : (Kd.int .i64).R 3 W base (fun _ => True) u xs) (ha : v.ownBlock = none ∨ v.ownBlock ≠ u.ownBlock) : v'.ownBlock = none ∨ v'.ownBlock ≠ u.ownBlock := by
  cases hv : v'.ownBlock with
  | none => exact .inl rfl
  | some k =>
    refine .inr (fun h => ?_)
    rcases hl k hv with e | hk
    · rcases ha with ha | ha
      · rw [ha] at e; cases e
      · exact ha (e.trans h)
    · have := Kd.R_lt hu k h.symm; omega
theorem PS.callq {w W W' : World} {g1 g2 : Nat} {most : Int} {v1 v2 v' : Value} {xs ys zs : List Int} (h : PS w W g1 g2 most v1 v2 xs ys) (hq : QS 53 w.heap.size W' g1 most v' zs) (hu : Upd W W' g1 v1.ownBlock) (hl : LiesN W v1 v') : PS w W' g1 g2 most v' v2 zs ys :=
  ⟨hq, ⟨(hu.block _ (blk_lt h.x.blk) (blk_ne h.x.blk h.q.blk (by decide)) (Kd.R_ne h.q.row h.x.blk (by decide))).trans h.x.blk, ri_upd h.x.row h.q.blk (by decide) hu (apart_symm h.ap), h.x.hg⟩, lies_apartN hl h.x.row h.ap, hu.below h.hB h.hB.size h.q.hg (fun k hk => Kd.R_base h.q.row k hk)⟩
theorem PS.callx {w W W' : World} {g1 g2 : Nat} {most : Int} {v1 v2 v' : Value} {xs ys zs : List Int} (h : PS w W g1 g2 most v1 v2 xs ys) (hq : QS 50 w.heap.size W' g2 most v' zs) (hu : Upd W W' g2 v2.ownBlock) (hl : LiesN W v2 v') : PS w W' g1 g2 most v1 v' xs zs :=
  ⟨⟨(hu.block _ (blk_lt h.q.blk) (blk_ne h.q.blk h.x.blk (by decide)) (Kd.R_ne h.x.row h.q.blk (by decide))).trans h.q.blk, ri_upd h.q.row h.x.blk (by decide) hu h.ap, h.q.hg⟩, hq, apart_symm (lies_apartN hl h.q.row (apart_symm h.ap)), hu.below h.hB h.hB.size h.x.hg (fun k hk => Kd.R_base h.x.row k hk)⟩
theorem PS.below {w W W' : World} {g1 g2 : Nat} {most : Int} {v1 v2 : Value} {xs ys : List Int} (h : PS w W g1 g2 most v1 v2 xs ys) (hb : Below W.heap.size W W') : PS w W' g1 g2 most v1 v2 xs ys :=
  ⟨⟨(hb.block _ (blk_lt h.q.blk)).trans h.q.blk, Kd.R_below h.q.row hb, h.q.hg⟩, ⟨(hb.block _ (blk_lt h.x.blk)).trans h.x.blk, Kd.R_below h.x.row hb, h.x.hg⟩, h.ap, below_then h.hB h.hB.size hb⟩
theorem blk_new1 (w : World) (a b : Obj) : ((w.alloc a).alloc b).heap[w.heap.size + 1]? = some b := by simpa using blk_new (w.alloc a) b
theorem wout_lt {job : Int} {xs : List Int} : (wout job xs).length < xs.length ↔ job ∈ xs := by
  unfold wout
  rw [List.length_filter_lt_length_iff_exists]
  constructor
  · rintro ⟨a, ha, hb⟩
    have : a = job := by simpa using hb
    exact this ▸ ha
  · intro h; exact ⟨job, h, by simp⟩
theorem fput_eq {most job : Int} {xs : List Int} (hl : (xs.length : Int) ≤ most) : fputE most xs job = putE most xs job := by
  unfold fputE putE
  by_cases h : job < 0
  · rw [if_pos h, if_pos h]
  · rw [if_neg h, if_neg h]
    by_cases hi : job ∈ xs
    · rw [if_pos hi, if_pos (wout_lt.2 hi)]
    · rw [if_neg hi, if_neg (fun e => hi (wout_lt.1 e))]
      by_cases hf : (xs.length : Int) = most
      · rw [if_pos hf, if_pos (by omega)]
      · rw [if_neg hf, if_neg (by omega)]
theorem fputL_eq {most job : Int} {xs : List Int} (hl : (xs.length : Int) ≤ most) : fputL most xs job = putL most xs job := by unfold fputL putL; rw [fput_eq hl]
theorem wout_erase {job : Int} {xs : List Int} (hn : xs.Nodup) : wout job xs = xs.erase job := by rw [hn.erase_eq_filter]; rfl
theorem wout_eq {job : Int} {xs : List Int} : (wout job xs).length = xs.length ↔ job ∉ xs := by
  have h1 := wout_le job xs
  have h2 := @wout_lt job xs
  constructor
  · intro h hm; have := h2.2 hm; omega
  · intro h
    by_cases c : (wout job xs).length < xs.length
    · exact absurd (h2.1 c) h
    · omega
theorem fdone_eq {job : Int} {xs : List Int} : fdoneE xs job = doneE xs job := by
  unfold fdoneE doneE
  by_cases hi : job ∈ xs
  · rw [if_pos hi, if_neg (fun e => wout_eq.1 e hi)]
  · rw [if_neg hi, if_pos (wout_eq.2 hi)]
theorem fdoneL_eq {job : Int} {xs : List Int} (hn : xs.Nodup) : fdoneL xs job = xs.erase job := by
  unfold fdoneL
  by_cases hi : job ∈ xs
  · rw [if_neg (fun e => wout_eq.1 e hi), wout_erase hn]
  · rw [if_pos (wout_eq.2 hi), List.erase_of_not_mem hi]
/-- What waits behind a call. -/
def stepL (most : Int) (xs : List Int) (kind n : Int) : List Int := if kind = 0 then putL most xs n else xs.erase n
theorem stepL_ok {most kind n : Int} {xs : List Int} (hn : xs.Nodup) (hl : (xs.length : Int) ≤ most) : (stepL most xs kind n).Nodup ∧ ((stepL most xs kind n).length : Int) ≤ most := by
  unfold stepL
  by_cases h : kind = 0
  · rw [if_pos h]
    unfold putL
    by_cases hp : putE most xs n = 0
    · rw [if_pos hp]
      unfold putE at hp
      split at hp
      · cases hp
      · split at hp
        · cases hp
        · split at hp
          · cases hp
          · rename_i h1 h2 h3
            exact ⟨List.nodup_append.2 ⟨hn, by simp, fun a ha b hb => by rw [List.mem_singleton.1 hb]; exact fun e => h2 (e ▸ ha)⟩, by simp; omega⟩
    · rw [if_neg hp]; exact ⟨hn, hl⟩
  · rw [if_neg h]
    exact ⟨hn.erase n, by have := List.length_erase_le (a := n) (l := xs); omega⟩
def inquestlaw19_QueuePlays.f (a0 : Int) (l1 : List S45) : Option Bool := some true
set_option maxHeartbeats 8000000 in
set_option maxRecDepth 100000 in
theorem inquestlaw19_QueuePlays.calls (a0 : Int) (A1 : Option Addr) (c1 : Nat) (l1 : List S45) (r : Bool) (w : World) (hr1 : Kd.C k45 w A1 l1.length l1) (hc1 : l1.length ≤ c1) (h : inquestlaw19_QueuePlays.f a0 l1 = some r) :
    Calls Try.prog 6 #[.int .i64 a0, .slice A1 l1.length c1] w fun e w' => e = .returned (.bool r) ∧ Below w.heap.size w w' := by
  obtain rfl : true = r := Option.some.inj h
  clear h
  by_cases hok : a0 < 1 ∨ 8 < a0
  · go_enter Try.func6, Try.ntmps6
    go_wp2_with (first | (go_at_call 12; (with_reducible refine (q_New_err a0 _ hok).mono ?_); rintro e w' ⟨rfl, rfl⟩) | (go_at_call 17; (with_reducible refine (f_New_err a0 _ hok).mono ?_); rintro e w' ⟨rfl, rfl⟩) | (go_at_call 10; (with_reducible refine (inquestlaw19_lives.calls true _ rfl).mono ?_); rintro e w9 ⟨rfl, hb9⟩))
    go_ret
    exact ⟨rfl, hb9⟩
  · have h1 : 1 ≤ a0 := by omega
    have h2 : a0 ≤ 8 := by omega
    have hm := Kd.C_max hr1
    obtain ⟨n, hn⟩ : ∃ n, n = (l1.take 100).length := ⟨_, rfl⟩
    have hC : Kd.C k45 w A1 n (l1.take 100) := by
      rw [hn]
      by_cases hl : 100 ≤ l1.length
      · exact Kd.C_take hr1 hl
      · rw [List.take_of_length_le (by omega)]; exact hr1
    have hnc : n ≤ c1 := by rw [hn]; simp; omega
    have hn1 : n ≤ 100 := by rw [hn]; simp; omega
    have hnif : n = if 100 < l1.length then 100 else l1.length := by rw [hn, List.length_take]; split <;> omega
    replace hn := Aside0.mk hn
    replace hnif := Aside0.mk hnif
    generalize l1.take 100 = l at *
    have hC' := Aside0.mk hC
    have hm' := Aside0.mk hm
    have hI0 : Aside0 (PS w ((w.alloc (.cells #[.int .i64 a0, .slice none 0 0] 53)).alloc (.cells #[.int .i64 a0, .slice none 0 0] 50)) w.heap.size (w.heap.size + 1) a0 (.slice none 0 0) (.slice none 0 0) [] []) := ⟨⟨⟨blk_alloc (blk_new w _) _, Kd.R_nil _ _ _ _ _, Nat.le_refl _⟩, ⟨blk_new1 w _ _, Kd.R_nil _ _ _ _ _, Nat.le_succ _⟩, .inl rfl, below_alloc (below_alloc (Below.refl _ w) _) _⟩⟩
    have h1' := Aside0.mk h1
    have h2' := Aside0.mk h2
    clear hC hm hok hr1
    go_enter Try.func6, Try.ntmps6
    go_wp2_with (first | (go_at_call 12; (with_reducible refine (q_New_ok a0 _ h1'.out h2'.out).mono ?_); rintro e w' ⟨rfl, rfl⟩) | (go_at_call 17; (with_reducible refine (f_New_ok a0 _ h1'.out h2'.out).mono ?_); rintro e w' ⟨rfl, rfl⟩) | (go_at_call 18; (with_reducible refine (f_few A1 c1 l1.length n _ hm'.out hnif.out hc1).mono ?_); rintro e w' ⟨rfl, rfl⟩))
    go_loopg [9] n (fun kk v9 W => ∃ (i : Nat) (v1 v2 : Value) (xs : List Int), v9 = .int .i64 i ∧ Aside0 (kk + i = n) ∧ Aside0 (PS w W w.heap.size (w.heap.size + 1) a0 v1 v2 xs xs) ∧ Aside0 xs.Nodup ∧ Aside0 ((xs.length : Int) ≤ a0))
    case atStart => exact ⟨0, _, _, [], rfl, ⟨rfl⟩, hI0, ⟨List.nodup_nil⟩, ⟨by simp; omega⟩⟩
    case round =>
      clear hI0
      obtain ⟨i, v1, v2, xs, rfl, hk, hI, hnd, hlen⟩ := hrel
      have hne := hn.out
      by_cases hil : i < n
      · obtain ⟨j, rfl⟩ : ∃ j, gk = j + 1 := ⟨gk - 1, by have := hk.out; omega⟩
        have p0 : (0 : Int) ≤ (i : Int) := Int.natCast_nonneg i
        have p1 : (i : Int) < (n : Int) := by omega
        have p2 : (n : Int) ≤ 100 := by omega
        obtain ⟨ad, ea, hyk, hyn⟩ := at_T45 hC'.out (i : Int) p0 p1
        subst ea
        simp only [Int.toNat_natCast] at hyk hyn
        have hx0 := pw_cell_below hI.out.hB hyk
        have hx1 := pw_cell_below hI.out.hB hyn
        replace hyk := Aside0.mk hyk
        replace hyn := Aside0.mk hyn
        generalize (rd_T45 l (i : Int)).f0 = kind at *
        generalize (rd_T45 l (i : Int)).f1 = jb at *
        have hu45 := Try.underlying45
        have hxl : xs.length ≤ 1000000 := by have := hlen.out; omega
        replace hxl := Aside0.mk hxl
        replace hne := Aside0.mk hne
        by_cases hkd : kind = 0
        · have hkb : (kind == 0) = true := beq_iff_eq.mpr hkd
          have hkc : (kind != 0) = false := bne_eq_false_iff_eq.mpr hkd
          replace hkd := Aside0.mk hkd
          have hfp := Aside0.mk (fput_eq (job := jb) hlen.out)
          have hfl := Aside0.mk (fputL_eq (job := jb) hlen.out)
          have hbb : (putE a0 xs jb != putE a0 xs jb) = false := by simp
          have hbd : (doneE xs jb != doneE xs jb) = false := by simp
          have ha0 : Aside0 (a0 ≠ 0) := ⟨by have := h1'.out; omega⟩
          have hI := Aside0.mk (hI.out.below (below_drew1 (Below.refl _ _)))
          have hok2 := stepL_ok (kind := kind) (n := jb) hnd.out hlen.out
          unfold stepL at hok2
          rw [if_pos hkd.out] at hok2
          obtain ⟨hnd2, hlen2⟩ := hok2
          have hnd2 := Aside0.mk hnd2
          have hlen2 := Aside0.mk hlen2
          go_wp2_with fail
          refine region_by (fun b W_ => ∃ v1 v2, PS w W_ w.heap.size (w.heap.size + 1) a0 v1 v2 (if b 13 = true then putL a0 xs jb else xs) (if b 20 = true then putL a0 xs jb else xs)) (by kernel_rfl) (by kernel_rfl) ⟨v1, v2, hI.out⟩ ?_
          iterate 13 (refine rb_want (by rfl) ?_; apply Exists.intro; apply And.intro; (focus (apply rb_pure; (focus (intro b w h; exact h)); intro b W_ hC; obtain ⟨_, _, hC⟩ := hC; have hx0 := pw_cell_below hC.hB hyk.out; have hx1 := pw_cell_below hC.hB hyn.out; clear hC; go_simp; rfl)); apply Exists.intro; apply And.intro; (focus (simp only [Act.put, List.setIfInBounds_toArray, List.set_cons_zero, List.set_cons_succ]; rfl)))
          (refine rb_want (by rfl) ⟨.int .i64 (putE a0 xs jb), rb_call (f := 13) (args := #[.pointer (some ⟨w.heap.size, 0, none⟩), .int .i64 jb]) (fun W_ => ?_) (fun b W_ hb hon hC => ?_), ?_⟩; (focus (exact rb_enters Try.func13 (by kernel_rfl) rfl (by rfl) W_)); (focus (obtain ⟨u1, u2, hC⟩ := hC; simp only [hb, Bool.false_eq_true, if_false] at hC; refine (q_Put jb hC.q hxl.out ha0.out).mono ?_; rintro e w1 ⟨v', rfl, hq1, hu1, hl1⟩; exact ⟨rfl, v', u2, hC.callq hq1 hu1 hl1.n⟩)); apply Exists.intro; apply And.intro; (focus (simp only [Act.put, List.setIfInBounds_toArray, List.set_cons_zero, List.set_cons_succ]; rfl)))
          iterate 6 (refine rb_want (by rfl) ?_; apply Exists.intro; apply And.intro; (focus (apply rb_pure; (focus (intro b w h; exact h)); intro b W_ hC; obtain ⟨_, _, hC⟩ := hC; have hx0 := pw_cell_below hC.hB hyk.out; have hx1 := pw_cell_below hC.hB hyn.out; clear hC; go_simp; rfl)); apply Exists.intro; apply And.intro; (focus (simp only [Act.put, List.setIfInBounds_toArray, List.set_cons_zero, List.set_cons_succ]; rfl)))
          (refine rb_want (by rfl) ⟨.int .i64 (putE a0 xs jb), rb_call (f := 19) (args := #[.pointer (some ⟨w.heap.size + 1, 0, none⟩), .int .i64 jb]) (fun W_ => ?_) (fun b W_ hb hon hC => ?_), ?_⟩; (focus (exact rb_enters Try.func19 (by kernel_rfl) rfl (by rfl) W_)); (focus (obtain ⟨u1, u2, hC⟩ := hC; simp only [hb, Bool.false_eq_true, if_false] at hC; refine (f_Put jb hC.x hxl.out).mono ?_; rintro e w1 ⟨v', rfl, hq1, hu1, hl1⟩; rw [hfp.out]; rw [hfl.out] at hq1; exact ⟨rfl, u1, v', hC.callx hq1 hu1 hl1.n⟩)); apply Exists.intro; apply And.intro; (focus (simp only [Act.put, List.setIfInBounds_toArray, List.set_cons_zero, List.set_cons_succ]; rfl)))
          iterate 27 (first | (refine rb_want (by rfl) ?_; apply Exists.intro; apply And.intro; (focus (apply rb_pure; (focus (intro b w h; exact h)); intro b W_ hC; obtain ⟨_, _, hC⟩ := hC; have hx0 := pw_cell_below hC.hB hyk.out; have hx1 := pw_cell_below hC.hB hyn.out; clear hC; go_simp; rfl)); apply Exists.intro; apply And.intro; (focus (simp only [Act.put, List.setIfInBounds_toArray, List.set_cons_zero, List.set_cons_succ]; rfl))) | (refine rb_skip (by rfl) (fun b w h => h) ?_; apply Exists.intro; apply And.intro; (focus (simp only [Act.put, List.setIfInBounds_toArray, List.set_cons_zero, List.set_cons_succ]; rfl))))
          refine rb_done (fun b W_ hall hC => ?_)
          obtain ⟨u1, u2, hC⟩ := hC
          have e13 : b 13 = true := hall 13 (by decide)
          have e20 : b 20 = true := hall 20 (by decide)
          simp only [e13, e20, if_true] at hC
          clear e13 e20 hbb hbd hfp hfl
          generalize putL a0 xs jb = ys at *
          refine q_gen W_ (fun W => PS w W w.heap.size (w.heap.size + 1) a0 u1 u2 ys ys) hC ?_
          clear hC hx0 hx1 hall hI hyk hyn
          clear W_
          rintro W_ hI
          obtain ⟨A2, c2, rfl⟩ := Kd.R_slice hI.x.row
          have hI := Aside0.mk hI
          have hyl : Aside0 (ys.length ≤ 1000000) := ⟨by have := hlen2.out; omega⟩
          have hye : ((ys.length : Int) != (ys.length : Int)) = false := by simp
          by_cases hz : ys.length = 0
          · have hf0 : firstV ys = 0 := if_pos hz
            have hd0 : decide (0 < ys.length) = false := decide_eq_false (by omega)
            have hd1 : decide ((0 : Int) < (ys.length : Int)) = false := decide_eq_false (by omega)
            have hd2 : (0 < ys.length) = False := eq_false (by omega)
            have hz' := Aside0.mk hz
            have hq1 := Aside0.mk (fun (W1 : World) (hb : Below W_.heap.size W_ W1) => q_First W1 (hI.out.below hb).q)
            rw [hf0, hd0] at hq1
            clear hz hf0 hd0
            go_wp2_with (first | (go_at_call 21; (with_reducible refine (q_Waiting _ hI.out.q hyl.out).mono ?_); rintro e w1 ⟨vw, rfl, hRw, hBw⟩; obtain ⟨Aw, cw, rfl⟩ := Kd.R_slice hRw; have k1 := blk_cell (hI.out.below hBw).x.blk 1; have k2 := blk_cell (hI.out.below hBw).q.blk 1; simp only [List.getElem?_toArray, List.getElem?_cons_zero, List.getElem?_cons_succ] at k1 k2; replace hRw := Aside0.mk hRw; replace hBw := Aside0.mk hBw) | (go_at_call 15; (with_reducible refine (hq1.out _ hBw.out).mono ?_); rintro e w' ⟨rfl, rfl⟩))
            go_quiet ((first | (go_at_call 22; exact Calls.quiet_of (f_Ints Aw A2 cw c2 ys _ (Kd.C_drewN (Kd.R_reads' hRw.out).2.2 _) (Kd.C_drewN (Kd.R_reads' (hI.out.below hBw.out).x.row).2.2 _) hyl.out)) | (go_at_call 14; exact Calls.quiet_of_same ((q_Len ((hI.out.below hBw.out).below (pw_below_drewN (Below.refl _ _) _)).q).mono (fun e w' h => ⟨h.1, h.2.symm⟩)))))
            have hBx := Aside0.mk (pw_below_drewN hBw.out nq)
            have hRx := Aside0.mk (Kd.R_drewN hRw.out nq)
            refine q_gen _ (fun W => Below W_.heap.size W_ W ∧ (Kd.int .i64).R 3 W W_.heap.size (fun _ => True) (.slice Aw ys.length cw) ys) ⟨hBx.out, hRx.out⟩ ?_
            clear hBx hRx hBw hRw k1 k2 hq1
            rintro W3 ⟨hBx, hRx⟩
            have hBx := Aside0.mk hBx
            have hyx : decide ((0 : Int) < (ys.length : Int)) = false := hd1
            go_wp2
            go_loopg [13] 0 (fun kk v13 W => v13 = .int .i64 0 ∧ Aside0 (Below W_.heap.size W_ W))
            case atStart => exact ⟨rfl, hBx⟩
            case round =>
              obtain ⟨rfl, hB5⟩ := hrel
              have hI5 := Aside0.mk (hI.out.below hB5.out)
              have k1 := blk_cell hI5.out.x.blk 1
              simp only [List.getElem?_toArray, List.getElem?_cons_zero, List.getElem?_cons_succ] at k1
              go_wp2
              go_region_held3 (fun W => W.cell? ⟨w.heap.size + 1, 1, none⟩ = some (.slice A2 ys.length c2)) (first | assumption | (show _ = _; assumption)) ((first | (go_at_call 21; (with_reducible refine (q_Waiting _ (hI5.out.below (below_drew1 (Below.refl _ _))).q hyl.out).mono ?_); rintro e w6 ⟨vx, rfl, hR6, hB6⟩; obtain ⟨A6, c6, rfl⟩ := Kd.R_slice hR6; have hI6 := Aside0.mk ((hI5.out.below (below_drew1 (Below.refl _ _))).below hB6); have k6 := blk_cell hI6.out.x.blk 1; simp only [List.getElem?_toArray, List.getElem?_cons_zero, List.getElem?_cons_succ] at k6; replace hR6 := Aside0.mk hR6; clear hB6) | (go_at_call 22; (with_reducible refine (f_Ints A6 A2 c6 c2 ys _ (Kd.R_reads' hR6.out).2.2 (Kd.R_reads' hI6.out.x.row).2.2 hyl.out).mono ?_); rintro e w7 ⟨rfl, n7, rfl⟩)))
              go_wp2
              go_roundg j
              case measure => omega
              case rel => exact ⟨i + 1, _, _, ys, by go_num, ⟨by have := hk.out; omega⟩, ⟨hI6.out.below (pw_below_drewN (Below.refl _ _) _)⟩, hnd2, hlen2⟩
          · have hf0 : firstV ys = rd ys 0 := if_neg hz
            have hd0 : decide (0 < ys.length) = true := decide_eq_true (by omega)
            have hd1 : decide ((0 : Int) < (ys.length : Int)) = true := decide_eq_true (by omega)
            have hd2 : (0 < ys.length) = True := eq_true (by omega)
            have hd3 : (0 : Int) < (ys.length : Int) := by omega
            have hq1 := Aside0.mk (fun (W1 : World) (hb : Below W_.heap.size W_ W1) => q_First W1 (hI.out.below hb).q)
            rw [hf0, hd0] at hq1
            obtain ⟨ad2, ea2, hw0⟩ := Kd.at_int (Kd.R_reads' hI.out.x.row).2.2 0 (Int.le_refl _) hd3
            subst ea2
            rw [show ((0 : Int)).toNat = 0 from rfl, Addr.add_zero'] at hw0
            have hw0' := Aside0.mk hw0
            have hrr : (rd ys 0 != rd ys 0) = false := by simp
            clear hf0 hd0 hw0
            go_wp2_with (first | (go_at_call 21; (with_reducible refine (q_Waiting _ hI.out.q hyl.out).mono ?_); rintro e w1 ⟨vw, rfl, hRw, hBw⟩; obtain ⟨gw, cw, rfl, hgw1, hgw2, _⟩ := Kd.R_form hRw (by omega); have k1 := blk_cell (hI.out.below hBw).x.blk 1; have k2 := blk_cell (hI.out.below hBw).q.blk 1; have k3 := pw_cell_below hBw hw0'.out; simp only [List.getElem?_toArray, List.getElem?_cons_zero, List.getElem?_cons_succ] at k1 k2; replace hRw := Aside0.mk hRw; replace hBw := Aside0.mk hBw; replace hgw1 := Aside0.mk hgw1; clear hgw2) | (go_at_call 15; (with_reducible refine (hq1.out _ hBw.out).mono ?_); rintro e w' ⟨rfl, rfl⟩))
            go_quiet ((first | (go_at_call 22; exact Calls.quiet_of (f_Ints (some ⟨gw, 0, none⟩) (some ad2) cw c2 ys _ (Kd.C_drewN (Kd.R_reads' hRw.out).2.2 _) (Kd.C_drewN (Kd.R_reads' (hI.out.below hBw.out).x.row).2.2 _) hyl.out)) | (go_at_call 14; exact Calls.quiet_of_same ((q_Len ((hI.out.below hBw.out).below (pw_below_drewN (Below.refl _ _) _)).q).mono (fun e w' h => ⟨h.1, h.2.symm⟩)))))
            have hBx := Aside0.mk (pw_below_drewN hBw.out nq)
            have hRx := Aside0.mk (Kd.R_drewN hRw.out nq)
            refine q_gen _ (fun W => Below W_.heap.size W_ W ∧ (Kd.int .i64).R 3 W W_.heap.size (fun _ => True) (.slice (some ⟨gw, 0, none⟩) ys.length cw) ys) ⟨hBx.out, hRx.out⟩ ?_
            clear hBx hRx hBw hRw k1 k2 k3 hq1
            rintro W3 ⟨hBx, hRx⟩
            have hBx := Aside0.mk hBx
            have hRx := Aside0.mk hRx
            go_wp2
            go_loopg [13] ys.length (fun kk v13 W => ∃ (m : Nat) (zs : List Int), v13 = .int .i64 m ∧ Aside0 (kk + m = ys.length) ∧ Aside0 (zs.length = ys.length) ∧ Aside0 (Below W_.heap.size W_ W) ∧ Aside0 ((Kd.int .i64).R 3 W W_.heap.size (fun _ => True) (.slice (some ⟨gw, 0, none⟩) ys.length cw) zs))
            case atStart => exact ⟨0, ys, rfl, ⟨rfl⟩, ⟨rfl⟩, hBx, hRx⟩
            case round =>
              clear hBx hRx
              obtain ⟨m, zs, rfl, hkm, hzl, hB5, hR5⟩ := hrel
              by_cases hml : m < ys.length
              · obtain ⟨jm, rfl⟩ : ∃ jm, gk = jm + 1 := ⟨gk - 1, by have := hkm.out; omega⟩
                have q0 : (0 : Int) ≤ (m : Int) := Int.natCast_nonneg m
                have q1 : (m : Int) < (ys.length : Int) := by omega
                have q2 : (ys.length : Int) ≤ 1000000 := by have := hyl.out; omega
                obtain ⟨z1, z2⟩ := Kd.R_celln (0 : Int) hR5.out (m : Int) q0 q1
                simp only [Int.toNat_natCast] at z1 z2
                have hput := Kd.R_putn hR5.out (m : Int) (-7)
                simp only [Int.toNat_natCast] at hput
                replace hput := Aside0.mk hput
                go_wp2
                go_roundg jm
                case measure => omega
                case rel => exact ⟨m + 1, zs.set m (-7), by go_num, ⟨by have := hkm.out; omega⟩, ⟨by rw [List.length_set]; exact hzl.out⟩, ⟨hB5.out.setCell hgw1.out _⟩, hput⟩
              · obtain rfl : m = ys.length := by have := hkm.out; omega
                have hI5 := Aside0.mk (hI.out.below hB5.out)
                have k1 := blk_cell hI5.out.x.blk 1
                simp only [List.getElem?_toArray, List.getElem?_cons_zero, List.getElem?_cons_succ] at k1
                go_wp2
                go_region_held3 (fun W => W.cell? ⟨w.heap.size + 1, 1, none⟩ = some (.slice (some ad2) ys.length c2)) (first | assumption | (show _ = _; assumption)) ((first | (go_at_call 21; (with_reducible refine (q_Waiting _ (hI5.out.below (below_drew1 (Below.refl _ _))).q hyl.out).mono ?_); rintro e w6 ⟨vx, rfl, hR6, hB6⟩; obtain ⟨A6, c6, rfl⟩ := Kd.R_slice hR6; have hI6 := Aside0.mk ((hI5.out.below (below_drew1 (Below.refl _ _))).below hB6); have k6 := blk_cell hI6.out.x.blk 1; simp only [List.getElem?_toArray, List.getElem?_cons_zero, List.getElem?_cons_succ] at k6; replace hR6 := Aside0.mk hR6; clear hB6) | (go_at_call 22; (with_reducible refine (f_Ints A6 (some ad2) c6 c2 ys _ (Kd.R_reads' hR6.out).2.2 (Kd.R_reads' hI6.out.x.row).2.2 hyl.out).mono ?_); rintro e w7 ⟨rfl, n7, rfl⟩)))
                go_wp2
                go_roundg j
                case measure => omega
                case rel => exact ⟨i + 1, _, _, ys, by go_num, ⟨by have := hk.out; omega⟩, ⟨hI6.out.below (pw_below_drewN (Below.refl _ _) _)⟩, hnd2, hlen2⟩
        · have hkb : (kind == 0) = false := beq_eq_false_iff_ne.mpr hkd
          have hkc : (kind != 0) = true := bne_iff_ne.mpr hkd
          replace hkd := Aside0.mk hkd
          have hfp := Aside0.mk (fput_eq (job := jb) hlen.out)
          have hfl := Aside0.mk (fputL_eq (job := jb) hlen.out)
          have hbb : (putE a0 xs jb != putE a0 xs jb) = false := by simp
          have hbd : (doneE xs jb != doneE xs jb) = false := by simp
          have ha0 : Aside0 (a0 ≠ 0) := ⟨by have := h1'.out; omega⟩
          have hI := Aside0.mk (hI.out.below (below_drew1 (Below.refl _ _)))
          have hok2 := stepL_ok (kind := kind) (n := jb) hnd.out hlen.out
          unfold stepL at hok2
          rw [if_neg hkd.out] at hok2
          obtain ⟨hnd2, hlen2⟩ := hok2
          have hnd2 := Aside0.mk hnd2
          have hlen2 := Aside0.mk hlen2
          go_wp2_with fail
          refine region_by (fun b W_ => ∃ v1 v2, PS w W_ w.heap.size (w.heap.size + 1) a0 v1 v2 (if b 37 = true then xs.erase jb else xs) (if b 44 = true then xs.erase jb else xs)) (by kernel_rfl) (by kernel_rfl) ⟨v1, v2, hI.out⟩ ?_
          iterate 37 (first | (refine rb_want (by rfl) ?_; apply Exists.intro; apply And.intro; (focus (apply rb_pure; (focus (intro b w h; exact h)); intro b W_ hC; obtain ⟨_, _, hC⟩ := hC; have hx0 := pw_cell_below hC.hB hyk.out; have hx1 := pw_cell_below hC.hB hyn.out; clear hC; go_simp; rfl)); apply Exists.intro; apply And.intro; (focus (simp only [Act.put, List.setIfInBounds_toArray, List.set_cons_zero, List.set_cons_succ]; rfl))) | (refine rb_skip (by rfl) (fun b w h => h) ?_; apply Exists.intro; apply And.intro; (focus (simp only [Act.put, List.setIfInBounds_toArray, List.set_cons_zero, List.set_cons_succ]; rfl))))
          (refine rb_want (by rfl) ⟨.int .i64 (doneE xs jb), rb_call (f := 16) (args := #[.pointer (some ⟨w.heap.size, 0, none⟩), .int .i64 jb]) (fun W_ => ?_) (fun b W_ hb hon hC => ?_), ?_⟩; (focus (exact rb_enters Try.func16 (by kernel_rfl) rfl (by rfl) W_)); (focus (obtain ⟨u1, u2, hC⟩ := hC; simp only [hb, Bool.false_eq_true, if_false] at hC; refine (q_Done jb hC.q hxl.out ha0.out).mono ?_; rintro e w1 ⟨v', rfl, hq1, hu1, hl1⟩; exact ⟨rfl, v', u2, hC.callq hq1 hu1 hl1.n⟩)); apply Exists.intro; apply And.intro; (focus (simp only [Act.put, List.setIfInBounds_toArray, List.set_cons_zero, List.set_cons_succ]; rfl)))
          iterate 6 (refine rb_want (by rfl) ?_; apply Exists.intro; apply And.intro; (focus (apply rb_pure; (focus (intro b w h; exact h)); intro b W_ hC; obtain ⟨_, _, hC⟩ := hC; have hx0 := pw_cell_below hC.hB hyk.out; have hx1 := pw_cell_below hC.hB hyn.out; clear hC; go_simp; rfl)); apply Exists.intro; apply And.intro; (focus (simp only [Act.put, List.setIfInBounds_toArray, List.set_cons_zero, List.set_cons_succ]; rfl)))
          (refine rb_want (by rfl) ⟨.int .i64 (doneE xs jb), rb_call (f := 20) (args := #[.pointer (some ⟨w.heap.size + 1, 0, none⟩), .int .i64 jb]) (fun W_ => ?_) (fun b W_ hb hon hC => ?_), ?_⟩; (focus (exact rb_enters Try.func20 (by kernel_rfl) rfl (by rfl) W_)); (focus (obtain ⟨u1, u2, hC⟩ := hC; simp only [hb, Bool.false_eq_true, if_false] at hC; refine (f_Done jb hC.x hxl.out).mono ?_; rintro e w1 ⟨v', rfl, hq1, hu1, hl1⟩; rw [fdone_eq]; rw [fdoneL_eq hnd.out] at hq1; exact ⟨rfl, u1, v', hC.callx hq1 hu1 hl1⟩)); apply Exists.intro; apply And.intro; (focus (simp only [Act.put, List.setIfInBounds_toArray, List.set_cons_zero, List.set_cons_succ]; rfl)))
          iterate 3 (refine rb_want (by rfl) ?_; apply Exists.intro; apply And.intro; (focus (apply rb_pure; (focus (intro b w h; exact h)); intro b W_ hC; obtain ⟨_, _, hC⟩ := hC; have hx0 := pw_cell_below hC.hB hyk.out; have hx1 := pw_cell_below hC.hB hyn.out; clear hC; go_simp; rfl)); apply Exists.intro; apply And.intro; (focus (simp only [Act.put, List.setIfInBounds_toArray, List.set_cons_zero, List.set_cons_succ]; rfl)))
          refine rb_done (fun b W_ hall hC => ?_)
          obtain ⟨u1, u2, hC⟩ := hC
          have e13 : b 37 = true := hall 37 (by decide)
          have e20 : b 44 = true := hall 44 (by decide)
          simp only [e13, e20, if_true] at hC
          clear e13 e20 hbb hbd hfp hfl
          generalize xs.erase jb = ys at *
          refine q_gen W_ (fun W => PS w W w.heap.size (w.heap.size + 1) a0 u1 u2 ys ys) hC ?_
          clear hC hx0 hx1 hall hI hyk hyn
          clear W_
          rintro W_ hI
          obtain ⟨A2, c2, rfl⟩ := Kd.R_slice hI.x.row
          have hI := Aside0.mk hI
          have hyl : Aside0 (ys.length ≤ 1000000) := ⟨by have := hlen2.out; omega⟩
          have hye : ((ys.length : Int) != (ys.length : Int)) = false := by simp
          by_cases hz : ys.length = 0
          · have hf0 : firstV ys = 0 := if_pos hz
            have hd0 : decide (0 < ys.length) = false := decide_eq_false (by omega)
            have hd1 : decide ((0 : Int) < (ys.length : Int)) = false := decide_eq_false (by omega)
            have hd2 : (0 < ys.length) = False := eq_false (by omega)
            have hz' := Aside0.mk hz
            have hq1 := Aside0.mk (fun (W1 : World) (hb : Below W_.heap.size W_ W1) => q_First W1 (hI.out.below hb).q)
            rw [hf0, hd0] at hq1
            clear hz hf0 hd0
            go_wp2_with (first | (go_at_call 21; (with_reducible refine (q_Waiting _ hI.out.q hyl.out).mono ?_); rintro e w1 ⟨vw, rfl, hRw, hBw⟩; obtain ⟨Aw, cw, rfl⟩ := Kd.R_slice hRw; have k1 := blk_cell (hI.out.below hBw).x.blk 1; have k2 := blk_cell (hI.out.below hBw).q.blk 1; simp only [List.getElem?_toArray, List.getElem?_cons_zero, List.getElem?_cons_succ] at k1 k2; replace hRw := Aside0.mk hRw; replace hBw := Aside0.mk hBw) | (go_at_call 15; (with_reducible refine (hq1.out _ hBw.out).mono ?_); rintro e w' ⟨rfl, rfl⟩))
            go_quiet ((first | (go_at_call 22; exact Calls.quiet_of (f_Ints Aw A2 cw c2 ys _ (Kd.C_drewN (Kd.R_reads' hRw.out).2.2 _) (Kd.C_drewN (Kd.R_reads' (hI.out.below hBw.out).x.row).2.2 _) hyl.out)) | (go_at_call 14; exact Calls.quiet_of_same ((q_Len ((hI.out.below hBw.out).below (pw_below_drewN (Below.refl _ _) _)).q).mono (fun e w' h => ⟨h.1, h.2.symm⟩)))))
            have hBx := Aside0.mk (pw_below_drewN hBw.out nq)
            have hRx := Aside0.mk (Kd.R_drewN hRw.out nq)
            refine q_gen _ (fun W => Below W_.heap.size W_ W ∧ (Kd.int .i64).R 3 W W_.heap.size (fun _ => True) (.slice Aw ys.length cw) ys) ⟨hBx.out, hRx.out⟩ ?_
            clear hBx hRx hBw hRw k1 k2 hq1
            rintro W3 ⟨hBx, hRx⟩
            have hBx := Aside0.mk hBx
            have hyx : decide ((0 : Int) < (ys.length : Int)) = false := hd1
            go_wp2
            go_loopg [13] 0 (fun kk v13 W => v13 = .int .i64 0 ∧ Aside0 (Below W_.heap.size W_ W))
            case atStart => exact ⟨rfl, hBx⟩
            case round =>
              obtain ⟨rfl, hB5⟩ := hrel
              have hI5 := Aside0.mk (hI.out.below hB5.out)
              have k1 := blk_cell hI5.out.x.blk 1
              simp only [List.getElem?_toArray, List.getElem?_cons_zero, List.getElem?_cons_succ] at k1
              go_wp2
              go_region_held3 (fun W => W.cell? ⟨w.heap.size + 1, 1, none⟩ = some (.slice A2 ys.length c2)) (first | assumption | (show _ = _; assumption)) ((first | (go_at_call 21; (with_reducible refine (q_Waiting _ (hI5.out.below (below_drew1 (Below.refl _ _))).q hyl.out).mono ?_); rintro e w6 ⟨vx, rfl, hR6, hB6⟩; obtain ⟨A6, c6, rfl⟩ := Kd.R_slice hR6; have hI6 := Aside0.mk ((hI5.out.below (below_drew1 (Below.refl _ _))).below hB6); have k6 := blk_cell hI6.out.x.blk 1; simp only [List.getElem?_toArray, List.getElem?_cons_zero, List.getElem?_cons_succ] at k6; replace hR6 := Aside0.mk hR6; clear hB6) | (go_at_call 22; (with_reducible refine (f_Ints A6 A2 c6 c2 ys _ (Kd.R_reads' hR6.out).2.2 (Kd.R_reads' hI6.out.x.row).2.2 hyl.out).mono ?_); rintro e w7 ⟨rfl, n7, rfl⟩)))
              go_wp2
              go_roundg j
              case measure => omega
              case rel => exact ⟨i + 1, _, _, ys, by go_num, ⟨by have := hk.out; omega⟩, ⟨hI6.out.below (pw_below_drewN (Below.refl _ _) _)⟩, hnd2, hlen2⟩
          · have hf0 : firstV ys = rd ys 0 := if_neg hz
            have hd0 : decide (0 < ys.length) = true := decide_eq_true (by omega)
            have hd1 : decide ((0 : Int) < (ys.length : Int)) = true := decide_eq_true (by omega)
            have hd2 : (0 < ys.length) = True := eq_true (by omega)
            have hd3 : (0 : Int) < (ys.length : Int) := by omega
            have hq1 := Aside0.mk (fun (W1 : World) (hb : Below W_.heap.size W_ W1) => q_First W1 (hI.out.below hb).q)
            rw [hf0, hd0] at hq1
            obtain ⟨ad2, ea2, hw0⟩ := Kd.at_int (Kd.R_reads' hI.out.x.row).2.2 0 (Int.le_refl _) hd3
            subst ea2
            rw [show ((0 : Int)).toNat = 0 from rfl, Addr.add_zero'] at hw0
            have hw0' := Aside0.mk hw0
            have hrr : (rd ys 0 != rd ys 0) = false := by simp
            clear hf0 hd0 hw0
            go_wp2_with (first | (go_at_call 21; (with_reducible refine (q_Waiting _ hI.out.q hyl.out).mono ?_); rintro e w1 ⟨vw, rfl, hRw, hBw⟩; obtain ⟨gw, cw, rfl, hgw1, hgw2, _⟩ := Kd.R_form hRw (by omega); have k1 := blk_cell (hI.out.below hBw).x.blk 1; have k2 := blk_cell (hI.out.below hBw).q.blk 1; have k3 := pw_cell_below hBw hw0'.out; simp only [List.getElem?_toArray, List.getElem?_cons_zero, List.getElem?_cons_succ] at k1 k2; replace hRw := Aside0.mk hRw; replace hBw := Aside0.mk hBw; replace hgw1 := Aside0.mk hgw1; clear hgw2) | (go_at_call 15; (with_reducible refine (hq1.out _ hBw.out).mono ?_); rintro e w' ⟨rfl, rfl⟩))
            go_quiet ((first | (go_at_call 22; exact Calls.quiet_of (f_Ints (some ⟨gw, 0, none⟩) (some ad2) cw c2 ys _ (Kd.C_drewN (Kd.R_reads' hRw.out).2.2 _) (Kd.C_drewN (Kd.R_reads' (hI.out.below hBw.out).x.row).2.2 _) hyl.out)) | (go_at_call 14; exact Calls.quiet_of_same ((q_Len ((hI.out.below hBw.out).below (pw_below_drewN (Below.refl _ _) _)).q).mono (fun e w' h => ⟨h.1, h.2.symm⟩)))))
            have hBx := Aside0.mk (pw_below_drewN hBw.out nq)
            have hRx := Aside0.mk (Kd.R_drewN hRw.out nq)
            refine q_gen _ (fun W => Below W_.heap.size W_ W ∧ (Kd.int .i64).R 3 W W_.heap.size (fun _ => True) (.slice (some ⟨gw, 0, none⟩) ys.length cw) ys) ⟨hBx.out, hRx.out⟩ ?_
            clear hBx hRx hBw hRw k1 k2 k3 hq1
            rintro W3 ⟨hBx, hRx⟩
            have hBx := Aside0.mk hBx
            have hRx := Aside0.mk hRx
            go_wp2
            go_loopg [13] ys.length (fun kk v13 W => ∃ (m : Nat) (zs : List Int), v13 = .int .i64 m ∧ Aside0 (kk + m = ys.length) ∧ Aside0 (zs.length = ys.length) ∧ Aside0 (Below W_.heap.size W_ W) ∧ Aside0 ((Kd.int .i64).R 3 W W_.heap.size (fun _ => True) (.slice (some ⟨gw, 0, none⟩) ys.length cw) zs))
            case atStart => exact ⟨0, ys, rfl, ⟨rfl⟩, ⟨rfl⟩, hBx, hRx⟩
            case round =>
              clear hBx hRx
              obtain ⟨m, zs, rfl, hkm, hzl, hB5, hR5⟩ := hrel
              by_cases hml : m < ys.length
              · obtain ⟨jm, rfl⟩ : ∃ jm, gk = jm + 1 := ⟨gk - 1, by have := hkm.out; omega⟩
                have q0 : (0 : Int) ≤ (m : Int) := Int.natCast_nonneg m
                have q1 : (m : Int) < (ys.length : Int) := by omega
                have q2 : (ys.length : Int) ≤ 1000000 := by have := hyl.out; omega
                obtain ⟨z1, z2⟩ := Kd.R_celln (0 : Int) hR5.out (m : Int) q0 q1
                simp only [Int.toNat_natCast] at z1 z2
                have hput := Kd.R_putn hR5.out (m : Int) (-7)
                simp only [Int.toNat_natCast] at hput
                replace hput := Aside0.mk hput
                go_wp2
                go_roundg jm
                case measure => omega
                case rel => exact ⟨m + 1, zs.set m (-7), by go_num, ⟨by have := hkm.out; omega⟩, ⟨by rw [List.length_set]; exact hzl.out⟩, ⟨hB5.out.setCell hgw1.out _⟩, hput⟩
              · obtain rfl : m = ys.length := by have := hkm.out; omega
                have hI5 := Aside0.mk (hI.out.below hB5.out)
                have k1 := blk_cell hI5.out.x.blk 1
                simp only [List.getElem?_toArray, List.getElem?_cons_zero, List.getElem?_cons_succ] at k1
                go_wp2
                go_region_held3 (fun W => W.cell? ⟨w.heap.size + 1, 1, none⟩ = some (.slice (some ad2) ys.length c2)) (first | assumption | (show _ = _; assumption)) ((first | (go_at_call 21; (with_reducible refine (q_Waiting _ (hI5.out.below (below_drew1 (Below.refl _ _))).q hyl.out).mono ?_); rintro e w6 ⟨vx, rfl, hR6, hB6⟩; obtain ⟨A6, c6, rfl⟩ := Kd.R_slice hR6; have hI6 := Aside0.mk ((hI5.out.below (below_drew1 (Below.refl _ _))).below hB6); have k6 := blk_cell hI6.out.x.blk 1; simp only [List.getElem?_toArray, List.getElem?_cons_zero, List.getElem?_cons_succ] at k6; replace hR6 := Aside0.mk hR6; clear hB6) | (go_at_call 22; (with_reducible refine (f_Ints A6 (some ad2) c6 c2 ys _ (Kd.R_reads' hR6.out).2.2 (Kd.R_reads' hI6.out.x.row).2.2 hyl.out).mono ?_); rintro e w7 ⟨rfl, n7, rfl⟩)))
                go_wp2
                go_roundg j
                case measure => omega
                case rel => exact ⟨i + 1, _, _, ys, by go_num, ⟨by have := hk.out; omega⟩, ⟨hI6.out.below (pw_below_drewN (Below.refl _ _) _)⟩, hnd2, hlen2⟩
      · obtain rfl : i = n := by have := hk.out; omega
        go_wp2_with (first | (go_at_call 10; (with_reducible refine (inquestlaw19_lives.calls true _ rfl).mono ?_); rintro e w9 ⟨rfl, hb9⟩))
        go_ret
        exact ⟨rfl, hI.out.hB.trans (hb9.mono hI.out.hB.size)⟩

/-- THE ONE PURE STATEMENT of inquestlaw19_QueuePlays: yours. -/
def inquestlaw19_QueuePlays.Pure : Prop := ∀ (a0 : Int) (l1 : List (S45)), (Lit.int .i64 a0).wf = true → l1.length ≤ maxLen → (∀ x ∈ l1, (Lit.int .i64 x.f0).wf = true ∧ (Lit.int .i64 x.f1).wf = true) → inquestlaw19_QueuePlays.f a0 l1 = some true
theorem inquestlaw19_QueuePlays.walk (P : inquestlaw19_QueuePlays.Pure) (a0 : Int) (a1 : Option Addr) (cap1 : Nat) (l1 : List (S45)) (w : World) (w0 : (Lit.int .i64 a0).wf = true) (hr1 : Kd.C k45 w a1 l1.length l1) (hc1 : l1.length ≤ cap1) (hm1 : l1.length ≤ maxLen) (hw1 : (∀ x ∈ l1, (Lit.int .i64 x.f0).wf = true ∧ (Lit.int .i64 x.f1).wf = true)) :
    Calls Try.prog 6 #[.int .i64 a0, .slice a1 l1.length cap1] w fun e w' => e = .returned (.bool true) ∧ Below w.heap.size w w' := by
  have h := P a0 l1 w0 hm1 hw1
  refine (inquestlaw19_QueuePlays.calls a0 _ _ l1 true w hr1 hc1 h).mono ?_
  rintro e w' ⟨rfl, hd⟩
  exact ⟨rfl, hd⟩

end Go.Proofs.Ytkhacnckajamhaa.PQueuePlays
