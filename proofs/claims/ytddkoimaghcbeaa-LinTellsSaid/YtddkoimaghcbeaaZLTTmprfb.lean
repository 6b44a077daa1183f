/- A part of what the law LinTells stands on, only as far as it is needed (the words and walks were printed or written in this seat; this text was cut by a program of this session, wip/bin/trim.py). No condition beyond what each theorem says. -/
import Derived.StillTailTactics
import Derived.Deep.RegionHeld3
import Derived.IntWalk
import Derived.Deep.QuietTactic
import Derived.BigQuiet
import Derived.Test.YtddkoimaghcbeaaZLTPVmStepsx0
import Derived.Test.YtddkoimaghcbeaaZLTPVmStepsx2
import Derived.Test.YtddkoimaghcbeaaZLTPVmStepsx3
import Derived.Test.YtddkoimaghcbeaaZLTPVmStepsx4
import Derived.Test.YtddkoimaghcbeaaZLTPVmStepsx5
import Derived.Test.YtddkoimaghcbeaaZLTPVmStepsx6
import Derived.Test.YtddkoimaghcbeaaZLTTmprfa
import Derived.Test.YtddkoimaghcbeaaZLTTmpvmu
namespace Go.Proofs.Ytddkoimaghcbeaa.PVmSteps
open Go.RowKit Go.Proofs.YtddkoimaghcbeaaW.PrintWords Go.Proofs.YtddkoimaghcbeaaW.PrintLast Go.Proofs.YtddkoimaghcbeaaW.PrintMore
set_option linter.unusedVariables false
set_option linter.unusedSimpArgs false
theorem rf_joined (op a b v : Int) (r : Bool) (w : World) (h : inquestref16_joined.f op a b = some (v, r)) : Calls Try.prog 82 #[.int .i64 op, .int .i64 a, .int .i64 b] w fun e w' => e = .returned (.tuple #[.int .i64 v, .bool r]) ∧ ∃ m, w' = w.drewN m :=
  (inquestref16_joined.calls op a b v r w h).mono (fun e w' ⟨he, m, hm⟩ => ⟨he, m, hm⟩)
theorem rf_top {w0 w : World} {K : List (Nat × Obj)} {g : Nat} {cs s : List Int} {x at_ us en rt : Int} {vS : Value} (q : RfM w0 w K g cs (s ++ [x]) at_ us en rt vS) :
    ∃ b c, vS = .slice (some ⟨b, 0, none⟩) (s.length + 1) c ∧ b ≠ g ∧ b < w.heap.size ∧ s.length + 1 ≤ c ∧ w.cell? ⟨b, s.length, none⟩ = some (.int .i64 x) := by
  obtain ⟨A, c, rfl⟩ := Kd.R_slice q.hS
  have hlen : (s ++ [x]).length = s.length + 1 := by simp
  have hSo := q.hS
  rw [hlen] at hSo
  have hown := Kd.own_of_R q.hS
  obtain ⟨_, hown⟩ := hown
  rcases hown with ⟨_, h0⟩ | ⟨b, cap, cur, e, hb2, hw, hn, hm, hs, ht⟩
  · simp at h0
  cases e
  obtain ⟨z1, _⟩ := Kd.R_celln (0 : Int) hSo (s.length : Int) (by omega) (by omega)
  have ex : rdOf 0 (s ++ [x]) (s.length : Int) = x := by simp [rdOf]
  rw [ex] at z1
  simp only [Int.toNat_natCast] at z1
  exact ⟨b, c, by rw [hlen], (q.hS.1 b rfl).1, blk_lt hw, by omega, z1⟩
theorem RfM.pop {w0 w : World} {K : List (Nat × Obj)} {g n m : Nat} {cs s : List Int} {x at_ us en rt : Int} {A : Option Addr} {c : Nat} (q : RfM w0 w K g cs (s ++ [x]) at_ us en rt (.slice A n c)) (hn : n = s.length + 1) (hm : m = s.length) :
    RfM w0 (w.setCell ⟨g, 4, none⟩ (.slice A m c)) K g cs s at_ us en rt (.slice A m c) := by
  subst hn hm
  have hR2 := Kd.R_take q.hS (m := s.length) (by simp)
  rw [List.take_left' rfl] at hR2
  exact q.setS hR2
theorem rf_cut {b n m c : Nat} (hn : m ≤ n) (hc : n ≤ c) (W : World) : (Instr.slice 99 (.slice (some ⟨b, 0, none⟩) n c) none (some (.int .i64 (m : Int))) none).run Try.prog W = .ok (.slice (some ⟨b, 0, none⟩) m c) W := by
  obtain ⟨i0, hi0, _, _, _⟩ := info_parts vp_info2
  have h := cut_to (P := Try.prog) 99 2 .i64 Try.underlying99 hi0 (some ⟨b, 0, none⟩) n c (m : Int) (by omega) (by omega) hc
  simpa only [Int.toNat_natCast] using h W
set_option maxRecDepth 100000 in
set_option maxHeartbeats 2000000 in
theorem rdo_pushE {w0 w : World} {K : List (Nat × Obj)} {g : Nat} {cs st : List Int} {at_ us en rt : Int} (n kind arg : Int) (h : RfB w0 w K g ⟨cs, [], at_, en, rt⟩ us) (hsm : st.length ≤ 985) :
    Calls Try.prog 58 #[.pointer (some ⟨g, 0, none⟩), .agg #[.int .i64 0, .int .i64 n], .int .i64 kind, .int .i64 arg] w fun e w' => e = .returned (.tuple #[]) ∧ RfB w0 w' K g ⟨cs, n :: [], wrap64 (at_ + 1), en, rt⟩ (wrap64 (us + 1)) := by
  have h0 := h
  have h1 : RfB w0 (((w.setCell ⟨g, 6, none⟩ (.int .i64 (wrap64 (us + 1)))).setCell ⟨g, 5, none⟩ (.int .i64 (wrap64 (at_ + 1)))).alloc (.cells #[.int .i64 0, .int .i64 n] 36)) ((w.heap.size, (.cells #[.int .i64 0, .int .i64 n] 36)) :: K) g ⟨cs, [], wrap64 (at_ + 1), en, rt⟩ (wrap64 (us + 1)) := ((h.setUs _).setAt _).moreAt _ _ (by rw [vm_ssz, vm_ssz])
  obtain ⟨vS, q⟩ := h
  obtain ⟨A, c, rfl⟩ := Kd.R_slice q.hS
  have d4 := blk_cell q.hk 4
  simp only [List.reverse_nil, List.length_nil] at d4
  have hvl := blk_lt q.hk
  have n1 : g ≠ w.heap.size := Nat.ne_of_lt hvl
  have n2 : w.heap.size ≠ g := fun e => n1 e.symm
  have d5 := blk_cell q.hk 5
  have d6 := blk_cell q.hk 6
  have f5 := blk_frozen q.hk 5
  have f6 := blk_frozen q.hk 6
  simp only [List.getElem?_toArray, List.getElem?_cons_zero, List.getElem?_cons_succ] at d4 d5 d6
  have hsz : (st.length : Int) ≤ 990 := by omega
  replace q := Aside0.mk q
  replace h0 := Aside0.mk h0
  replace h1 := Aside0.mk h1
  go_enter Try.func58, Try.ntmps58
  go_wp2_with (first | (go_at_call 80; (with_reducible refine (rf_one (s := []) (t := []) 0 _ h1.out (by first | omega | (simp only [List.length_cons]; omega) | simp) (by simp) rfl).mono ?_); rintro e Wh2 ⟨rfl, h2⟩; replace h2 := Aside0.mk h2))
  go_end0
  exact ⟨rfl, h2.out.less (fun q hq => List.mem_cons_of_mem _ hq)⟩
set_option maxRecDepth 100000 in
set_option maxHeartbeats 2000000 in
theorem rdo_pushN {w0 w : World} {K : List (Nat × Obj)} {g : Nat} {cs st : List Int} {at_ us en rt : Int} (n kind arg y : Int) (h : RfB w0 w K g ⟨cs, y :: st, at_, en, rt⟩ us) (hsm : st.length ≤ 985) :
    Calls Try.prog 58 #[.pointer (some ⟨g, 0, none⟩), .agg #[.int .i64 0, .int .i64 n], .int .i64 kind, .int .i64 arg] w fun e w' => e = .returned (.tuple #[]) ∧ RfB w0 w' K g ⟨cs, n :: y :: st, wrap64 (at_ + 1), en, rt⟩ (wrap64 (us + 1)) := by
  have h0 := h
  have h1 : RfB w0 (((w.setCell ⟨g, 6, none⟩ (.int .i64 (wrap64 (us + 1)))).setCell ⟨g, 5, none⟩ (.int .i64 (wrap64 (at_ + 1)))).alloc (.cells #[.int .i64 0, .int .i64 n] 36)) ((w.heap.size, (.cells #[.int .i64 0, .int .i64 n] 36)) :: K) g ⟨cs, y :: st, wrap64 (at_ + 1), en, rt⟩ (wrap64 (us + 1)) := ((h.setUs _).setAt _).moreAt _ _ (by rw [vm_ssz, vm_ssz])
  obtain ⟨vS, q⟩ := h
  simp only [List.reverse_cons] at q
  obtain ⟨b_, c, rfl, nb, nl, nc, z1⟩ := rf_top q
  rw [show (st.reverse).length = st.length from by simp] at nc z1
  have nb2 : g ≠ b_ := fun e => nb e.symm
  have nb3 : b_ ≠ w.heap.size := Nat.ne_of_lt nl
  have d4 := blk_cell q.hk 4
  simp only [show (st.reverse).length = st.length from by simp] at d4
  have hvl := blk_lt q.hk
  have n1 : g ≠ w.heap.size := Nat.ne_of_lt hvl
  have n2 : w.heap.size ≠ g := fun e => n1 e.symm
  have d5 := blk_cell q.hk 5
  have d6 := blk_cell q.hk 6
  have f5 := blk_frozen q.hk 5
  have f6 := blk_frozen q.hk 6
  simp only [List.getElem?_toArray, List.getElem?_cons_zero, List.getElem?_cons_succ] at d4 d5 d6
  have hsz : (st.length : Int) ≤ 990 := by omega
  replace q := Aside0.mk q
  replace h0 := Aside0.mk h0
  replace h1 := Aside0.mk h1
  go_enter Try.func58, Try.ntmps58
  go_wp2_with (first | (go_at_call 80; (with_reducible refine (rf_one (s := _) (t := []) 0 _ h1.out (by first | omega | (simp only [List.length_cons]; omega) | simp) (by simp) rfl).mono ?_); rintro e Wh2 ⟨rfl, h2⟩; replace h2 := Aside0.mk h2))
  go_end0
  exact ⟨rfl, h2.out.less (fun q hq => List.mem_cons_of_mem _ hq)⟩
set_option maxRecDepth 100000 in
set_option maxHeartbeats 2000000 in
theorem rdo_argE {w0 w : World} {K : List (Nat × Obj)} {g : Nat} {cs st : List Int} {at_ us en rt : Int} (n kind arg : Int) (h : RfB w0 w K g ⟨cs, [], at_, en, rt⟩ us) (hsm : st.length ≤ 985) :
    Calls Try.prog 58 #[.pointer (some ⟨g, 0, none⟩), .agg #[.int .i64 6, .int .i64 n], .int .i64 kind, .int .i64 arg] w fun e w' => e = .returned (.tuple #[]) ∧ RfB w0 w' K g ⟨cs, arg :: [], wrap64 (at_ + 1), en, rt⟩ (wrap64 (us + 1)) := by
  have h0 := h
  have h1 : RfB w0 (((w.setCell ⟨g, 6, none⟩ (.int .i64 (wrap64 (us + 1)))).setCell ⟨g, 5, none⟩ (.int .i64 (wrap64 (at_ + 1)))).alloc (.cells #[.int .i64 6, .int .i64 n] 36)) ((w.heap.size, (.cells #[.int .i64 6, .int .i64 n] 36)) :: K) g ⟨cs, [], wrap64 (at_ + 1), en, rt⟩ (wrap64 (us + 1)) := ((h.setUs _).setAt _).moreAt _ _ (by rw [vm_ssz, vm_ssz])
  obtain ⟨vS, q⟩ := h
  obtain ⟨A, c, rfl⟩ := Kd.R_slice q.hS
  have d4 := blk_cell q.hk 4
  simp only [List.reverse_nil, List.length_nil] at d4
  have hvl := blk_lt q.hk
  have n1 : g ≠ w.heap.size := Nat.ne_of_lt hvl
  have n2 : w.heap.size ≠ g := fun e => n1 e.symm
  have d5 := blk_cell q.hk 5
  have d6 := blk_cell q.hk 6
  have f5 := blk_frozen q.hk 5
  have f6 := blk_frozen q.hk 6
  simp only [List.getElem?_toArray, List.getElem?_cons_zero, List.getElem?_cons_succ] at d4 d5 d6
  have hsz : (st.length : Int) ≤ 990 := by omega
  replace q := Aside0.mk q
  replace h0 := Aside0.mk h0
  replace h1 := Aside0.mk h1
  go_enter Try.func58, Try.ntmps58
  go_wp2_with (first | (go_at_call 80; (with_reducible refine (rf_one (s := []) (t := []) 0 _ h1.out (by first | omega | (simp only [List.length_cons]; omega) | simp) (by simp) rfl).mono ?_); rintro e Wh2 ⟨rfl, h2⟩; replace h2 := Aside0.mk h2))
  go_end0
  exact ⟨rfl, h2.out.less (fun q hq => List.mem_cons_of_mem _ hq)⟩
set_option maxRecDepth 100000 in
set_option maxHeartbeats 2000000 in
theorem rdo_argN {w0 w : World} {K : List (Nat × Obj)} {g : Nat} {cs st : List Int} {at_ us en rt : Int} (n kind arg y : Int) (h : RfB w0 w K g ⟨cs, y :: st, at_, en, rt⟩ us) (hsm : st.length ≤ 985) :
    Calls Try.prog 58 #[.pointer (some ⟨g, 0, none⟩), .agg #[.int .i64 6, .int .i64 n], .int .i64 kind, .int .i64 arg] w fun e w' => e = .returned (.tuple #[]) ∧ RfB w0 w' K g ⟨cs, arg :: y :: st, wrap64 (at_ + 1), en, rt⟩ (wrap64 (us + 1)) := by
  have h0 := h
  have h1 : RfB w0 (((w.setCell ⟨g, 6, none⟩ (.int .i64 (wrap64 (us + 1)))).setCell ⟨g, 5, none⟩ (.int .i64 (wrap64 (at_ + 1)))).alloc (.cells #[.int .i64 6, .int .i64 n] 36)) ((w.heap.size, (.cells #[.int .i64 6, .int .i64 n] 36)) :: K) g ⟨cs, y :: st, wrap64 (at_ + 1), en, rt⟩ (wrap64 (us + 1)) := ((h.setUs _).setAt _).moreAt _ _ (by rw [vm_ssz, vm_ssz])
  obtain ⟨vS, q⟩ := h
  simp only [List.reverse_cons] at q
  obtain ⟨b_, c, rfl, nb, nl, nc, z1⟩ := rf_top q
  rw [show (st.reverse).length = st.length from by simp] at nc z1
  have nb2 : g ≠ b_ := fun e => nb e.symm
  have nb3 : b_ ≠ w.heap.size := Nat.ne_of_lt nl
  have d4 := blk_cell q.hk 4
  simp only [show (st.reverse).length = st.length from by simp] at d4
  have hvl := blk_lt q.hk
  have n1 : g ≠ w.heap.size := Nat.ne_of_lt hvl
  have n2 : w.heap.size ≠ g := fun e => n1 e.symm
  have d5 := blk_cell q.hk 5
  have d6 := blk_cell q.hk 6
  have f5 := blk_frozen q.hk 5
  have f6 := blk_frozen q.hk 6
  simp only [List.getElem?_toArray, List.getElem?_cons_zero, List.getElem?_cons_succ] at d4 d5 d6
  have hsz : (st.length : Int) ≤ 990 := by omega
  replace q := Aside0.mk q
  replace h0 := Aside0.mk h0
  replace h1 := Aside0.mk h1
  go_enter Try.func58, Try.ntmps58
  go_wp2_with (first | (go_at_call 80; (with_reducible refine (rf_one (s := _) (t := []) 0 _ h1.out (by first | omega | (simp only [List.length_cons]; omega) | simp) (by simp) rfl).mono ?_); rintro e Wh2 ⟨rfl, h2⟩; replace h2 := Aside0.mk h2))
  go_end0
  exact ⟨rfl, h2.out.less (fun q hq => List.mem_cons_of_mem _ hq)⟩
set_option maxRecDepth 100000 in
set_option maxHeartbeats 2000000 in
theorem rdo_kindE {w0 w : World} {K : List (Nat × Obj)} {g : Nat} {cs st : List Int} {at_ us en rt : Int} (n kind arg : Int) (h : RfB w0 w K g ⟨cs, [], at_, en, rt⟩ us) (hsm : st.length ≤ 985) :
    Calls Try.prog 58 #[.pointer (some ⟨g, 0, none⟩), .agg #[.int .i64 7, .int .i64 n], .int .i64 kind, .int .i64 arg] w fun e w' => e = .returned (.tuple #[]) ∧ RfB w0 w' K g ⟨cs, kind :: [], wrap64 (at_ + 1), en, rt⟩ (wrap64 (us + 1)) := by
  have h0 := h
  have h1 : RfB w0 (((w.setCell ⟨g, 6, none⟩ (.int .i64 (wrap64 (us + 1)))).setCell ⟨g, 5, none⟩ (.int .i64 (wrap64 (at_ + 1)))).alloc (.cells #[.int .i64 7, .int .i64 n] 36)) ((w.heap.size, (.cells #[.int .i64 7, .int .i64 n] 36)) :: K) g ⟨cs, [], wrap64 (at_ + 1), en, rt⟩ (wrap64 (us + 1)) := ((h.setUs _).setAt _).moreAt _ _ (by rw [vm_ssz, vm_ssz])
  obtain ⟨vS, q⟩ := h
  obtain ⟨A, c, rfl⟩ := Kd.R_slice q.hS
  have d4 := blk_cell q.hk 4
  simp only [List.reverse_nil, List.length_nil] at d4
  have hvl := blk_lt q.hk
  have n1 : g ≠ w.heap.size := Nat.ne_of_lt hvl
  have n2 : w.heap.size ≠ g := fun e => n1 e.symm
  have d5 := blk_cell q.hk 5
  have d6 := blk_cell q.hk 6
  have f5 := blk_frozen q.hk 5
  have f6 := blk_frozen q.hk 6
  simp only [List.getElem?_toArray, List.getElem?_cons_zero, List.getElem?_cons_succ] at d4 d5 d6
  have hsz : (st.length : Int) ≤ 990 := by omega
  replace q := Aside0.mk q
  replace h0 := Aside0.mk h0
  replace h1 := Aside0.mk h1
  go_enter Try.func58, Try.ntmps58
  go_wp2_with (first | (go_at_call 80; (with_reducible refine (rf_one (s := []) (t := []) 0 _ h1.out (by first | omega | (simp only [List.length_cons]; omega) | simp) (by simp) rfl).mono ?_); rintro e Wh2 ⟨rfl, h2⟩; replace h2 := Aside0.mk h2))
  go_end0
  exact ⟨rfl, h2.out.less (fun q hq => List.mem_cons_of_mem _ hq)⟩
set_option maxRecDepth 100000 in
set_option maxHeartbeats 2000000 in
theorem rdo_kindN {w0 w : World} {K : List (Nat × Obj)} {g : Nat} {cs st : List Int} {at_ us en rt : Int} (n kind arg y : Int) (h : RfB w0 w K g ⟨cs, y :: st, at_, en, rt⟩ us) (hsm : st.length ≤ 985) :
    Calls Try.prog 58 #[.pointer (some ⟨g, 0, none⟩), .agg #[.int .i64 7, .int .i64 n], .int .i64 kind, .int .i64 arg] w fun e w' => e = .returned (.tuple #[]) ∧ RfB w0 w' K g ⟨cs, kind :: y :: st, wrap64 (at_ + 1), en, rt⟩ (wrap64 (us + 1)) := by
  have h0 := h
  have h1 : RfB w0 (((w.setCell ⟨g, 6, none⟩ (.int .i64 (wrap64 (us + 1)))).setCell ⟨g, 5, none⟩ (.int .i64 (wrap64 (at_ + 1)))).alloc (.cells #[.int .i64 7, .int .i64 n] 36)) ((w.heap.size, (.cells #[.int .i64 7, .int .i64 n] 36)) :: K) g ⟨cs, y :: st, wrap64 (at_ + 1), en, rt⟩ (wrap64 (us + 1)) := ((h.setUs _).setAt _).moreAt _ _ (by rw [vm_ssz, vm_ssz])
  obtain ⟨vS, q⟩ := h
  simp only [List.reverse_cons] at q
  obtain ⟨b_, c, rfl, nb, nl, nc, z1⟩ := rf_top q
  rw [show (st.reverse).length = st.length from by simp] at nc z1
  have nb2 : g ≠ b_ := fun e => nb e.symm
  have nb3 : b_ ≠ w.heap.size := Nat.ne_of_lt nl
  have d4 := blk_cell q.hk 4
  simp only [show (st.reverse).length = st.length from by simp] at d4
  have hvl := blk_lt q.hk
  have n1 : g ≠ w.heap.size := Nat.ne_of_lt hvl
  have n2 : w.heap.size ≠ g := fun e => n1 e.symm
  have d5 := blk_cell q.hk 5
  have d6 := blk_cell q.hk 6
  have f5 := blk_frozen q.hk 5
  have f6 := blk_frozen q.hk 6
  simp only [List.getElem?_toArray, List.getElem?_cons_zero, List.getElem?_cons_succ] at d4 d5 d6
  have hsz : (st.length : Int) ≤ 990 := by omega
  replace q := Aside0.mk q
  replace h0 := Aside0.mk h0
  replace h1 := Aside0.mk h1
  go_enter Try.func58, Try.ntmps58
  go_wp2_with (first | (go_at_call 80; (with_reducible refine (rf_one (s := _) (t := []) 0 _ h1.out (by first | omega | (simp only [List.length_cons]; omega) | simp) (by simp) rfl).mono ?_); rintro e Wh2 ⟨rfl, h2⟩; replace h2 := Aside0.mk h2))
  go_end0
  exact ⟨rfl, h2.out.less (fun q hq => List.mem_cons_of_mem _ hq)⟩
set_option maxRecDepth 100000 in
set_option maxHeartbeats 2000000 in
theorem rdo_pop {w0 w : World} {K : List (Nat × Obj)} {g : Nat} {cs st : List Int} {at_ us en rt : Int} (n kind arg y : Int) (h : RfB w0 w K g ⟨cs, y :: st, at_, en, rt⟩ us) (hsm : st.length ≤ 985) :
    Calls Try.prog 58 #[.pointer (some ⟨g, 0, none⟩), .agg #[.int .i64 1, .int .i64 n], .int .i64 kind, .int .i64 arg] w fun e w' => e = .returned (.tuple #[]) ∧ RfB w0 w' K g ⟨cs, st, wrap64 (at_ + 1), en, rt⟩ (wrap64 (us + 1)) := by
  have h0 := h
  have h1 : RfB w0 (((w.setCell ⟨g, 6, none⟩ (.int .i64 (wrap64 (us + 1)))).setCell ⟨g, 5, none⟩ (.int .i64 (wrap64 (at_ + 1)))).alloc (.cells #[.int .i64 1, .int .i64 n] 36)) ((w.heap.size, (.cells #[.int .i64 1, .int .i64 n] 36)) :: K) g ⟨cs, y :: st, wrap64 (at_ + 1), en, rt⟩ (wrap64 (us + 1)) := ((h.setUs _).setAt _).moreAt _ _ (by rw [vm_ssz, vm_ssz])
  obtain ⟨vS, q⟩ := h
  simp only [List.reverse_cons] at q
  obtain ⟨b_, c, rfl, nb, nl, nc, z1⟩ := rf_top q
  rw [show (st.reverse).length = st.length from by simp] at nc z1
  have nb2 : g ≠ b_ := fun e => nb e.symm
  have nb3 : b_ ≠ w.heap.size := Nat.ne_of_lt nl
  have d4 := blk_cell q.hk 4
  simp only [show (st.reverse).length = st.length from by simp] at d4
  have hvl := blk_lt q.hk
  have n1 : g ≠ w.heap.size := Nat.ne_of_lt hvl
  have n2 : w.heap.size ≠ g := fun e => n1 e.symm
  have d5 := blk_cell q.hk 5
  have d6 := blk_cell q.hk 6
  have f5 := blk_frozen q.hk 5
  have f6 := blk_frozen q.hk 6
  simp only [List.getElem?_toArray, List.getElem?_cons_zero, List.getElem?_cons_succ] at d4 d5 d6
  have hsz : (st.length : Int) ≤ 990 := by omega
  replace q := Aside0.mk q
  replace h0 := Aside0.mk h0
  replace h1 := Aside0.mk h1
  have hcut := fun (W : World) => rf_cut (b := b_) (n := st.length + 1) (m := st.length) (c := c) (by omega) nc W
  have f4 := blk_frozen q.out.hk 4
  go_enter Try.func58, Try.ntmps58
  go_wp2
  go_end0
  exact ⟨rfl, ⟨_, (((q.out.setUs (wrap64 (us + 1))).setAt (wrap64 (at_ + 1))).pop (m := st.length) (by simp) (by simp)).came (below_alloc (Below.refl _ _) _)⟩⟩
set_option maxRecDepth 100000 in
set_option maxHeartbeats 2000000 in
theorem rdo_dup {w0 w : World} {K : List (Nat × Obj)} {g : Nat} {cs st : List Int} {at_ us en rt : Int} (n kind arg y : Int) (h : RfB w0 w K g ⟨cs, y :: st, at_, en, rt⟩ us) (hsm : st.length ≤ 985) :
    Calls Try.prog 58 #[.pointer (some ⟨g, 0, none⟩), .agg #[.int .i64 2, .int .i64 n], .int .i64 kind, .int .i64 arg] w fun e w' => e = .returned (.tuple #[]) ∧ RfB w0 w' K g ⟨cs, y :: y :: st, wrap64 (at_ + 1), en, rt⟩ (wrap64 (us + 1)) := by
  have h0 := h
  have h1 : RfB w0 (((w.setCell ⟨g, 6, none⟩ (.int .i64 (wrap64 (us + 1)))).setCell ⟨g, 5, none⟩ (.int .i64 (wrap64 (at_ + 1)))).alloc (.cells #[.int .i64 2, .int .i64 n] 36)) ((w.heap.size, (.cells #[.int .i64 2, .int .i64 n] 36)) :: K) g ⟨cs, y :: st, wrap64 (at_ + 1), en, rt⟩ (wrap64 (us + 1)) := ((h.setUs _).setAt _).moreAt _ _ (by rw [vm_ssz, vm_ssz])
  obtain ⟨vS, q⟩ := h
  simp only [List.reverse_cons] at q
  obtain ⟨b_, c, rfl, nb, nl, nc, z1⟩ := rf_top q
  rw [show (st.reverse).length = st.length from by simp] at nc z1
  have nb2 : g ≠ b_ := fun e => nb e.symm
  have nb3 : b_ ≠ w.heap.size := Nat.ne_of_lt nl
  have d4 := blk_cell q.hk 4
  simp only [show (st.reverse).length = st.length from by simp] at d4
  have hvl := blk_lt q.hk
  have n1 : g ≠ w.heap.size := Nat.ne_of_lt hvl
  have n2 : w.heap.size ≠ g := fun e => n1 e.symm
  have d5 := blk_cell q.hk 5
  have d6 := blk_cell q.hk 6
  have f5 := blk_frozen q.hk 5
  have f6 := blk_frozen q.hk 6
  simp only [List.getElem?_toArray, List.getElem?_cons_zero, List.getElem?_cons_succ] at d4 d5 d6
  have hsz : (st.length : Int) ≤ 990 := by omega
  replace q := Aside0.mk q
  replace h0 := Aside0.mk h0
  replace h1 := Aside0.mk h1
  go_enter Try.func58, Try.ntmps58
  go_wp2_with (first | (go_at_call 80; (with_reducible refine (rf_one (s := _) (t := []) 0 _ h1.out (by first | omega | (simp only [List.length_cons]; omega) | simp) (by simp) rfl).mono ?_); rintro e Wh2 ⟨rfl, h2⟩; replace h2 := Aside0.mk h2))
  go_end0
  exact ⟨rfl, h2.out.less (fun q hq => List.mem_cons_of_mem _ hq)⟩
theorem rf_at2 {w0 w : World} {K : List (Nat × Obj)} {g : Nat} {cs s : List Int} {x y at_ us en rt : Int} {b c n : Nat} (q : RfM w0 w K g cs (s ++ [y] ++ [x]) at_ us en rt (.slice (some ⟨b, 0, none⟩) n c)) : w.cell? ⟨b, s.length, none⟩ = some (.int .i64 y) := by
  obtain ⟨A, c1, e⟩ := Kd.R_slice q.hS
  have hlen : (s ++ [y] ++ [x]).length = s.length + 2 := by simp
  injection e with e1 e2 e3
  have hSo := q.hS
  obtain ⟨z1, _⟩ := Kd.R_celln (0 : Int) hSo (s.length : Int) (by omega) (by omega)
  have ex : rdOf 0 (s ++ [y] ++ [x]) (s.length : Int) = y := by simp [rdOf]
  rw [ex] at z1
  simpa only [Int.toNat_natCast] using z1
set_option maxRecDepth 100000 in
set_option maxHeartbeats 2000000 in
theorem rdo_swap {w0 w : World} {K : List (Nat × Obj)} {g : Nat} {cs st : List Int} {at_ us en rt : Int} (n kind arg a b : Int) (h : RfB w0 w K g ⟨cs, b :: a :: st, at_, en, rt⟩ us) (hsm : st.length ≤ 984) :
    Calls Try.prog 58 #[.pointer (some ⟨g, 0, none⟩), .agg #[.int .i64 3, .int .i64 n], .int .i64 kind, .int .i64 arg] w fun e w' => e = .returned (.tuple #[]) ∧ RfB w0 w' K g ⟨cs, a :: b :: st, wrap64 (at_ + 1), en, rt⟩ (wrap64 (us + 1)) := by
  have h0 := h
  have h1 : RfB w0 (((w.setCell ⟨g, 6, none⟩ (.int .i64 (wrap64 (us + 1)))).setCell ⟨g, 5, none⟩ (.int .i64 (wrap64 (at_ + 1)))).alloc (.cells #[.int .i64 3, .int .i64 n] 36)) ((w.heap.size, (.cells #[.int .i64 3, .int .i64 n] 36)) :: K) g ⟨cs, b :: a :: st, wrap64 (at_ + 1), en, rt⟩ (wrap64 (us + 1)) := ((h.setUs _).setAt _).moreAt _ _ (by rw [vm_ssz, vm_ssz])
  obtain ⟨vS, q⟩ := h
  simp only [List.reverse_cons] at q
  obtain ⟨b_, c, rfl, nb, nl, nc, z1⟩ := rf_top q
  rw [show ((st.reverse ++ [a])).length = st.length + 1 from by simp] at nc z1
  have nb2 : g ≠ b_ := fun e => nb e.symm
  have nb3 : b_ ≠ w.heap.size := Nat.ne_of_lt nl
  have d4 := blk_cell q.hk 4
  simp only [show ((st.reverse ++ [a])).length = st.length + 1 from by simp] at d4
  have hvl := blk_lt q.hk
  have n1 : g ≠ w.heap.size := Nat.ne_of_lt hvl
  have n2 : w.heap.size ≠ g := fun e => n1 e.symm
  have d5 := blk_cell q.hk 5
  have d6 := blk_cell q.hk 6
  have f5 := blk_frozen q.hk 5
  have f6 := blk_frozen q.hk 6
  simp only [List.getElem?_toArray, List.getElem?_cons_zero, List.getElem?_cons_succ] at d4 d5 d6
  have hsz : (st.length : Int) ≤ 990 := by omega
  replace q := Aside0.mk q
  replace h0 := Aside0.mk h0
  replace h1 := Aside0.mk h1
  have z2 := rf_at2 q.out
  rw [List.length_reverse] at z2
  go_enter Try.func58, Try.ntmps58
  go_wp2_with (first | (go_at_call 80; (with_reducible refine (rf_one (s := _) (t := [b, a]) 2 _ h1.out (by first | omega | (simp only [List.length_cons]; omega) | simp) (by simp) rfl).mono ?_); rintro e Wh2 ⟨rfl, h2⟩; replace h2 := Aside0.mk h2) | (go_at_call 80; (with_reducible refine (rf_one (s := _) (t := []) 0 _ h2.out (by first | omega | (simp only [List.length_cons]; omega) | simp) (by simp) rfl).mono ?_); rintro e Wh3 ⟨rfl, h3⟩; replace h3 := Aside0.mk h3))
  go_end0
  exact ⟨rfl, h3.out.less (fun q hq => List.mem_cons_of_mem _ hq)⟩
set_option maxRecDepth 100000 in
set_option maxHeartbeats 2000000 in
theorem rdo_not1 {w0 w : World} {K : List (Nat × Obj)} {g : Nat} {cs st : List Int} {at_ us en rt : Int} (n kind arg y : Int) (hx : y = 0) (h : RfB w0 w K g ⟨cs, y :: st, at_, en, rt⟩ us) (hsm : st.length ≤ 985) :
    Calls Try.prog 58 #[.pointer (some ⟨g, 0, none⟩), .agg #[.int .i64 15, .int .i64 n], .int .i64 kind, .int .i64 arg] w fun e w' => e = .returned (.tuple #[]) ∧ RfB w0 w' K g ⟨cs, 1 :: st, wrap64 (at_ + 1), en, rt⟩ (wrap64 (us + 1)) := by
  have h0 := h
  have h1 : RfB w0 (((w.setCell ⟨g, 6, none⟩ (.int .i64 (wrap64 (us + 1)))).setCell ⟨g, 5, none⟩ (.int .i64 (wrap64 (at_ + 1)))).alloc (.cells #[.int .i64 15, .int .i64 n] 36)) ((w.heap.size, (.cells #[.int .i64 15, .int .i64 n] 36)) :: K) g ⟨cs, y :: st, wrap64 (at_ + 1), en, rt⟩ (wrap64 (us + 1)) := ((h.setUs _).setAt _).moreAt _ _ (by rw [vm_ssz, vm_ssz])
  obtain ⟨vS, q⟩ := h
  simp only [List.reverse_cons] at q
  obtain ⟨b_, c, rfl, nb, nl, nc, z1⟩ := rf_top q
  rw [show (st.reverse).length = st.length from by simp] at nc z1
  have nb2 : g ≠ b_ := fun e => nb e.symm
  have nb3 : b_ ≠ w.heap.size := Nat.ne_of_lt nl
  have d4 := blk_cell q.hk 4
  simp only [show (st.reverse).length = st.length from by simp] at d4
  have hvl := blk_lt q.hk
  have n1 : g ≠ w.heap.size := Nat.ne_of_lt hvl
  have n2 : w.heap.size ≠ g := fun e => n1 e.symm
  have d5 := blk_cell q.hk 5
  have d6 := blk_cell q.hk 6
  have f5 := blk_frozen q.hk 5
  have f6 := blk_frozen q.hk 6
  simp only [List.getElem?_toArray, List.getElem?_cons_zero, List.getElem?_cons_succ] at d4 d5 d6
  have hsz : (st.length : Int) ≤ 990 := by omega
  replace q := Aside0.mk q
  replace h0 := Aside0.mk h0
  replace h1 := Aside0.mk h1
  have hxb : (y == 0) = true := beq_iff_eq.mpr hx
  clear hx
  go_enter Try.func58, Try.ntmps58
  go_wp2_with (first | (go_at_call 81; (with_reducible refine (inquestref16_truth.calls true 1 _ rfl).mono ?_); rintro e Wh2 ⟨rfl, ⟨nd, rfl⟩⟩; have h2 := Aside0.mk (h1.out.came (pw_below_drewN (Below.refl _ _) nd))) | (go_at_call 80; (with_reducible refine (rf_one (s := _) (t := [y]) 1 _ h2.out (by first | omega | (simp only [List.length_cons]; omega) | simp) (by simp) rfl).mono ?_); rintro e Wh3 ⟨rfl, h3⟩; replace h3 := Aside0.mk h3))
  go_end0
  exact ⟨rfl, h3.out.less (fun q hq => List.mem_cons_of_mem _ hq)⟩
set_option maxRecDepth 100000 in
set_option maxHeartbeats 2000000 in
theorem rdo_not0 {w0 w : World} {K : List (Nat × Obj)} {g : Nat} {cs st : List Int} {at_ us en rt : Int} (n kind arg y : Int) (hx : ¬ y = 0) (h : RfB w0 w K g ⟨cs, y :: st, at_, en, rt⟩ us) (hsm : st.length ≤ 985) :
    Calls Try.prog 58 #[.pointer (some ⟨g, 0, none⟩), .agg #[.int .i64 15, .int .i64 n], .int .i64 kind, .int .i64 arg] w fun e w' => e = .returned (.tuple #[]) ∧ RfB w0 w' K g ⟨cs, 0 :: st, wrap64 (at_ + 1), en, rt⟩ (wrap64 (us + 1)) := by
  have h0 := h
  have h1 : RfB w0 (((w.setCell ⟨g, 6, none⟩ (.int .i64 (wrap64 (us + 1)))).setCell ⟨g, 5, none⟩ (.int .i64 (wrap64 (at_ + 1)))).alloc (.cells #[.int .i64 15, .int .i64 n] 36)) ((w.heap.size, (.cells #[.int .i64 15, .int .i64 n] 36)) :: K) g ⟨cs, y :: st, wrap64 (at_ + 1), en, rt⟩ (wrap64 (us + 1)) := ((h.setUs _).setAt _).moreAt _ _ (by rw [vm_ssz, vm_ssz])
  obtain ⟨vS, q⟩ := h
  simp only [List.reverse_cons] at q
  obtain ⟨b_, c, rfl, nb, nl, nc, z1⟩ := rf_top q
  rw [show (st.reverse).length = st.length from by simp] at nc z1
  have nb2 : g ≠ b_ := fun e => nb e.symm
  have nb3 : b_ ≠ w.heap.size := Nat.ne_of_lt nl
  have d4 := blk_cell q.hk 4
  simp only [show (st.reverse).length = st.length from by simp] at d4
  have hvl := blk_lt q.hk
  have n1 : g ≠ w.heap.size := Nat.ne_of_lt hvl
  have n2 : w.heap.size ≠ g := fun e => n1 e.symm
  have d5 := blk_cell q.hk 5
  have d6 := blk_cell q.hk 6
  have f5 := blk_frozen q.hk 5
  have f6 := blk_frozen q.hk 6
  simp only [List.getElem?_toArray, List.getElem?_cons_zero, List.getElem?_cons_succ] at d4 d5 d6
  have hsz : (st.length : Int) ≤ 990 := by omega
  replace q := Aside0.mk q
  replace h0 := Aside0.mk h0
  replace h1 := Aside0.mk h1
  have hxb : (y == 0) = false := beq_eq_false_iff_ne.mpr hx
  clear hx
  go_enter Try.func58, Try.ntmps58
  go_wp2_with (first | (go_at_call 81; (with_reducible refine (inquestref16_truth.calls false 0 _ rfl).mono ?_); rintro e Wh2 ⟨rfl, ⟨nd, rfl⟩⟩; have h2 := Aside0.mk (h1.out.came (pw_below_drewN (Below.refl _ _) nd))) | (go_at_call 80; (with_reducible refine (rf_one (s := _) (t := [y]) 1 _ h2.out (by first | omega | (simp only [List.length_cons]; omega) | simp) (by simp) rfl).mono ?_); rintro e Wh3 ⟨rfl, h3⟩; replace h3 := Aside0.mk h3))
  go_end0
  exact ⟨rfl, h3.out.less (fun q hq => List.mem_cons_of_mem _ hq)⟩
set_option maxRecDepth 100000 in
set_option maxHeartbeats 2000000 in
theorem rdo_jumpE {w0 w : World} {K : List (Nat × Obj)} {g : Nat} {cs st : List Int} {at_ us en rt : Int} (n kind arg : Int) (h : RfB w0 w K g ⟨cs, [], at_, en, rt⟩ us) (hsm : st.length ≤ 985) :
    Calls Try.prog 58 #[.pointer (some ⟨g, 0, none⟩), .agg #[.int .i64 16, .int .i64 n], .int .i64 kind, .int .i64 arg] w fun e w' => e = .returned (.tuple #[]) ∧ RfB w0 w' K g ⟨cs, [], n, en, rt⟩ (wrap64 (us + 1)) := by
  have h0 := h
  have h1 : RfB w0 (((w.setCell ⟨g, 6, none⟩ (.int .i64 (wrap64 (us + 1)))).setCell ⟨g, 5, none⟩ (.int .i64 (wrap64 (at_ + 1)))).alloc (.cells #[.int .i64 16, .int .i64 n] 36)) ((w.heap.size, (.cells #[.int .i64 16, .int .i64 n] 36)) :: K) g ⟨cs, [], wrap64 (at_ + 1), en, rt⟩ (wrap64 (us + 1)) := ((h.setUs _).setAt _).moreAt _ _ (by rw [vm_ssz, vm_ssz])
  obtain ⟨vS, q⟩ := h
  obtain ⟨A, c, rfl⟩ := Kd.R_slice q.hS
  have d4 := blk_cell q.hk 4
  simp only [List.reverse_nil, List.length_nil] at d4
  have hvl := blk_lt q.hk
  have n1 : g ≠ w.heap.size := Nat.ne_of_lt hvl
  have n2 : w.heap.size ≠ g := fun e => n1 e.symm
  have d5 := blk_cell q.hk 5
  have d6 := blk_cell q.hk 6
  have f5 := blk_frozen q.hk 5
  have f6 := blk_frozen q.hk 6
  simp only [List.getElem?_toArray, List.getElem?_cons_zero, List.getElem?_cons_succ] at d4 d5 d6
  have hsz : (st.length : Int) ≤ 990 := by omega
  replace q := Aside0.mk q
  replace h0 := Aside0.mk h0
  replace h1 := Aside0.mk h1
  go_enter Try.func58, Try.ntmps58
  go_wp2
  go_end0
  exact ⟨rfl, (((h0.out.setUs _).setAt _).setAt _).came (below_alloc (Below.refl _ _) _)⟩
set_option maxRecDepth 100000 in
set_option maxHeartbeats 2000000 in
theorem rdo_refuseE {w0 w : World} {K : List (Nat × Obj)} {g : Nat} {cs st : List Int} {at_ us en rt : Int} (n kind arg : Int) (h : RfB w0 w K g ⟨cs, [], at_, en, rt⟩ us) (hsm : st.length ≤ 985) :
    Calls Try.prog 58 #[.pointer (some ⟨g, 0, none⟩), .agg #[.int .i64 19, .int .i64 n], .int .i64 kind, .int .i64 arg] w fun e w' => e = .returned (.tuple #[]) ∧ RfB w0 w' K g ⟨cs, [], wrap64 (at_ + 1), 2, rt⟩ (wrap64 (us + 1)) := by
  have h0 := h
  have h1 : RfB w0 (((w.setCell ⟨g, 6, none⟩ (.int .i64 (wrap64 (us + 1)))).setCell ⟨g, 5, none⟩ (.int .i64 (wrap64 (at_ + 1)))).alloc (.cells #[.int .i64 19, .int .i64 n] 36)) ((w.heap.size, (.cells #[.int .i64 19, .int .i64 n] 36)) :: K) g ⟨cs, [], wrap64 (at_ + 1), en, rt⟩ (wrap64 (us + 1)) := ((h.setUs _).setAt _).moreAt _ _ (by rw [vm_ssz, vm_ssz])
  obtain ⟨vS, q⟩ := h
  obtain ⟨A, c, rfl⟩ := Kd.R_slice q.hS
  have d4 := blk_cell q.hk 4
  simp only [List.reverse_nil, List.length_nil] at d4
  have hvl := blk_lt q.hk
  have n1 : g ≠ w.heap.size := Nat.ne_of_lt hvl
  have n2 : w.heap.size ≠ g := fun e => n1 e.symm
  have d5 := blk_cell q.hk 5
  have d6 := blk_cell q.hk 6
  have f5 := blk_frozen q.hk 5
  have f6 := blk_frozen q.hk 6
  simp only [List.getElem?_toArray, List.getElem?_cons_zero, List.getElem?_cons_succ] at d4 d5 d6
  have hsz : (st.length : Int) ≤ 990 := by omega
  replace q := Aside0.mk q
  replace h0 := Aside0.mk h0
  replace h1 := Aside0.mk h1
  have d8 := blk_cell q.out.hk 8
  have f8 := blk_frozen q.out.hk 8
  simp only [List.getElem?_toArray, List.getElem?_cons_zero, List.getElem?_cons_succ] at d8
  go_enter Try.func58, Try.ntmps58
  go_wp2
  go_end0
  exact ⟨rfl, (((h0.out.setUs _).setAt _).setOver _).came (below_alloc (Below.refl _ _) _)⟩
set_option maxRecDepth 100000 in
set_option maxHeartbeats 2000000 in
theorem rdo_jumpN {w0 w : World} {K : List (Nat × Obj)} {g : Nat} {cs st : List Int} {at_ us en rt : Int} (n kind arg y : Int) (h : RfB w0 w K g ⟨cs, y :: st, at_, en, rt⟩ us) (hsm : st.length ≤ 985) :
    Calls Try.prog 58 #[.pointer (some ⟨g, 0, none⟩), .agg #[.int .i64 16, .int .i64 n], .int .i64 kind, .int .i64 arg] w fun e w' => e = .returned (.tuple #[]) ∧ RfB w0 w' K g ⟨cs, y :: st, n, en, rt⟩ (wrap64 (us + 1)) := by
  have h0 := h
  have h1 : RfB w0 (((w.setCell ⟨g, 6, none⟩ (.int .i64 (wrap64 (us + 1)))).setCell ⟨g, 5, none⟩ (.int .i64 (wrap64 (at_ + 1)))).alloc (.cells #[.int .i64 16, .int .i64 n] 36)) ((w.heap.size, (.cells #[.int .i64 16, .int .i64 n] 36)) :: K) g ⟨cs, y :: st, wrap64 (at_ + 1), en, rt⟩ (wrap64 (us + 1)) := ((h.setUs _).setAt _).moreAt _ _ (by rw [vm_ssz, vm_ssz])
  obtain ⟨vS, q⟩ := h
  simp only [List.reverse_cons] at q
  obtain ⟨b_, c, rfl, nb, nl, nc, z1⟩ := rf_top q
  rw [show (st.reverse).length = st.length from by simp] at nc z1
  have nb2 : g ≠ b_ := fun e => nb e.symm
  have nb3 : b_ ≠ w.heap.size := Nat.ne_of_lt nl
  have d4 := blk_cell q.hk 4
  simp only [show (st.reverse).length = st.length from by simp] at d4
  have hvl := blk_lt q.hk
  have n1 : g ≠ w.heap.size := Nat.ne_of_lt hvl
  have n2 : w.heap.size ≠ g := fun e => n1 e.symm
  have d5 := blk_cell q.hk 5
  have d6 := blk_cell q.hk 6
  have f5 := blk_frozen q.hk 5
  have f6 := blk_frozen q.hk 6
  simp only [List.getElem?_toArray, List.getElem?_cons_zero, List.getElem?_cons_succ] at d4 d5 d6
  have hsz : (st.length : Int) ≤ 990 := by omega
  replace q := Aside0.mk q
  replace h0 := Aside0.mk h0
  replace h1 := Aside0.mk h1
  go_enter Try.func58, Try.ntmps58
  go_wp2
  go_end0
  exact ⟨rfl, (((h0.out.setUs _).setAt _).setAt _).came (below_alloc (Below.refl _ _) _)⟩
set_option maxRecDepth 100000 in
set_option maxHeartbeats 2000000 in
theorem rdo_refuseN {w0 w : World} {K : List (Nat × Obj)} {g : Nat} {cs st : List Int} {at_ us en rt : Int} (n kind arg y : Int) (h : RfB w0 w K g ⟨cs, y :: st, at_, en, rt⟩ us) (hsm : st.length ≤ 985) :
    Calls Try.prog 58 #[.pointer (some ⟨g, 0, none⟩), .agg #[.int .i64 19, .int .i64 n], .int .i64 kind, .int .i64 arg] w fun e w' => e = .returned (.tuple #[]) ∧ RfB w0 w' K g ⟨cs, y :: st, wrap64 (at_ + 1), 2, rt⟩ (wrap64 (us + 1)) := by
  have h0 := h
  have h1 : RfB w0 (((w.setCell ⟨g, 6, none⟩ (.int .i64 (wrap64 (us + 1)))).setCell ⟨g, 5, none⟩ (.int .i64 (wrap64 (at_ + 1)))).alloc (.cells #[.int .i64 19, .int .i64 n] 36)) ((w.heap.size, (.cells #[.int .i64 19, .int .i64 n] 36)) :: K) g ⟨cs, y :: st, wrap64 (at_ + 1), en, rt⟩ (wrap64 (us + 1)) := ((h.setUs _).setAt _).moreAt _ _ (by rw [vm_ssz, vm_ssz])
  obtain ⟨vS, q⟩ := h
  simp only [List.reverse_cons] at q
  obtain ⟨b_, c, rfl, nb, nl, nc, z1⟩ := rf_top q
  rw [show (st.reverse).length = st.length from by simp] at nc z1
  have nb2 : g ≠ b_ := fun e => nb e.symm
  have nb3 : b_ ≠ w.heap.size := Nat.ne_of_lt nl
  have d4 := blk_cell q.hk 4
  simp only [show (st.reverse).length = st.length from by simp] at d4
  have hvl := blk_lt q.hk
  have n1 : g ≠ w.heap.size := Nat.ne_of_lt hvl
  have n2 : w.heap.size ≠ g := fun e => n1 e.symm
  have d5 := blk_cell q.hk 5
  have d6 := blk_cell q.hk 6
  have f5 := blk_frozen q.hk 5
  have f6 := blk_frozen q.hk 6
  simp only [List.getElem?_toArray, List.getElem?_cons_zero, List.getElem?_cons_succ] at d4 d5 d6
  have hsz : (st.length : Int) ≤ 990 := by omega
  replace q := Aside0.mk q
  replace h0 := Aside0.mk h0
  replace h1 := Aside0.mk h1
  have d8 := blk_cell q.out.hk 8
  have f8 := blk_frozen q.out.hk 8
  simp only [List.getElem?_toArray, List.getElem?_cons_zero, List.getElem?_cons_succ] at d8
  go_enter Try.func58, Try.ntmps58
  go_wp2
  go_end0
  exact ⟨rfl, (((h0.out.setUs _).setAt _).setOver _).came (below_alloc (Below.refl _ _) _)⟩
set_option maxRecDepth 100000 in
set_option maxHeartbeats 2000000 in
theorem rdo_unless0 {w0 w : World} {K : List (Nat × Obj)} {g : Nat} {cs st : List Int} {at_ us en rt : Int} (n kind arg y : Int) (hx : y = 0) (h : RfB w0 w K g ⟨cs, y :: st, at_, en, rt⟩ us) (hsm : st.length ≤ 985) :
    Calls Try.prog 58 #[.pointer (some ⟨g, 0, none⟩), .agg #[.int .i64 17, .int .i64 n], .int .i64 kind, .int .i64 arg] w fun e w' => e = .returned (.tuple #[]) ∧ RfB w0 w' K g ⟨cs, st, n, en, rt⟩ (wrap64 (us + 1)) := by
  have h0 := h
  have h1 : RfB w0 (((w.setCell ⟨g, 6, none⟩ (.int .i64 (wrap64 (us + 1)))).setCell ⟨g, 5, none⟩ (.int .i64 (wrap64 (at_ + 1)))).alloc (.cells #[.int .i64 17, .int .i64 n] 36)) ((w.heap.size, (.cells #[.int .i64 17, .int .i64 n] 36)) :: K) g ⟨cs, y :: st, wrap64 (at_ + 1), en, rt⟩ (wrap64 (us + 1)) := ((h.setUs _).setAt _).moreAt _ _ (by rw [vm_ssz, vm_ssz])
  obtain ⟨vS, q⟩ := h
  simp only [List.reverse_cons] at q
  obtain ⟨b_, c, rfl, nb, nl, nc, z1⟩ := rf_top q
  rw [show (st.reverse).length = st.length from by simp] at nc z1
  have nb2 : g ≠ b_ := fun e => nb e.symm
  have nb3 : b_ ≠ w.heap.size := Nat.ne_of_lt nl
  have d4 := blk_cell q.hk 4
  simp only [show (st.reverse).length = st.length from by simp] at d4
  have hvl := blk_lt q.hk
  have n1 : g ≠ w.heap.size := Nat.ne_of_lt hvl
  have n2 : w.heap.size ≠ g := fun e => n1 e.symm
  have d5 := blk_cell q.hk 5
  have d6 := blk_cell q.hk 6
  have f5 := blk_frozen q.hk 5
  have f6 := blk_frozen q.hk 6
  simp only [List.getElem?_toArray, List.getElem?_cons_zero, List.getElem?_cons_succ] at d4 d5 d6
  have hsz : (st.length : Int) ≤ 990 := by omega
  replace q := Aside0.mk q
  replace h0 := Aside0.mk h0
  replace h1 := Aside0.mk h1
  have hxb : (y == 0) = true := beq_iff_eq.mpr hx
  clear hx
  have hcut := fun (W : World) => rf_cut (b := b_) (n := st.length + 1) (m := st.length) (c := c) (by omega) nc W
  have f4 := blk_frozen q.out.hk 4
  go_enter Try.func58, Try.ntmps58
  go_wp2
  go_end0
  exact ⟨rfl, ⟨_, ((((q.out.setUs (wrap64 (us + 1))).setAt (wrap64 (at_ + 1))).pop (m := st.length) (by simp) (by simp)).setAt n).came (below_alloc (Below.refl _ _) _)⟩⟩
set_option maxRecDepth 100000 in
set_option maxHeartbeats 2000000 in
theorem rdo_unless1 {w0 w : World} {K : List (Nat × Obj)} {g : Nat} {cs st : List Int} {at_ us en rt : Int} (n kind arg y : Int) (hx : ¬ y = 0) (h : RfB w0 w K g ⟨cs, y :: st, at_, en, rt⟩ us) (hsm : st.length ≤ 985) :
    Calls Try.prog 58 #[.pointer (some ⟨g, 0, none⟩), .agg #[.int .i64 17, .int .i64 n], .int .i64 kind, .int .i64 arg] w fun e w' => e = .returned (.tuple #[]) ∧ RfB w0 w' K g ⟨cs, st, wrap64 (at_ + 1), en, rt⟩ (wrap64 (us + 1)) := by
  have h0 := h
  have h1 : RfB w0 (((w.setCell ⟨g, 6, none⟩ (.int .i64 (wrap64 (us + 1)))).setCell ⟨g, 5, none⟩ (.int .i64 (wrap64 (at_ + 1)))).alloc (.cells #[.int .i64 17, .int .i64 n] 36)) ((w.heap.size, (.cells #[.int .i64 17, .int .i64 n] 36)) :: K) g ⟨cs, y :: st, wrap64 (at_ + 1), en, rt⟩ (wrap64 (us + 1)) := ((h.setUs _).setAt _).moreAt _ _ (by rw [vm_ssz, vm_ssz])
  obtain ⟨vS, q⟩ := h
  simp only [List.reverse_cons] at q
  obtain ⟨b_, c, rfl, nb, nl, nc, z1⟩ := rf_top q
  rw [show (st.reverse).length = st.length from by simp] at nc z1
  have nb2 : g ≠ b_ := fun e => nb e.symm
  have nb3 : b_ ≠ w.heap.size := Nat.ne_of_lt nl
  have d4 := blk_cell q.hk 4
  simp only [show (st.reverse).length = st.length from by simp] at d4
  have hvl := blk_lt q.hk
  have n1 : g ≠ w.heap.size := Nat.ne_of_lt hvl
  have n2 : w.heap.size ≠ g := fun e => n1 e.symm
  have d5 := blk_cell q.hk 5
  have d6 := blk_cell q.hk 6
  have f5 := blk_frozen q.hk 5
  have f6 := blk_frozen q.hk 6
  simp only [List.getElem?_toArray, List.getElem?_cons_zero, List.getElem?_cons_succ] at d4 d5 d6
  have hsz : (st.length : Int) ≤ 990 := by omega
  replace q := Aside0.mk q
  replace h0 := Aside0.mk h0
  replace h1 := Aside0.mk h1
  have hxb : (y == 0) = false := beq_eq_false_iff_ne.mpr hx
  clear hx
  have hcut := fun (W : World) => rf_cut (b := b_) (n := st.length + 1) (m := st.length) (c := c) (by omega) nc W
  have f4 := blk_frozen q.out.hk 4
  go_enter Try.func58, Try.ntmps58
  go_wp2
  go_end0
  exact ⟨rfl, ⟨_, (((q.out.setUs (wrap64 (us + 1))).setAt (wrap64 (at_ + 1))).pop (m := st.length) (by simp) (by simp)).came (below_alloc (Below.refl _ _) _)⟩⟩
set_option maxRecDepth 100000 in
set_option maxHeartbeats 2000000 in
theorem rdo_answer {w0 w : World} {K : List (Nat × Obj)} {g : Nat} {cs st : List Int} {at_ us en rt : Int} (n kind arg y : Int) (h : RfB w0 w K g ⟨cs, y :: st, at_, en, rt⟩ us) (hsm : st.length ≤ 985) :
    Calls Try.prog 58 #[.pointer (some ⟨g, 0, none⟩), .agg #[.int .i64 18, .int .i64 n], .int .i64 kind, .int .i64 arg] w fun e w' => e = .returned (.tuple #[]) ∧ RfB w0 w' K g ⟨cs, y :: st, wrap64 (at_ + 1), 1, y⟩ (wrap64 (us + 1)) := by
  have h0 := h
  have h1 : RfB w0 (((w.setCell ⟨g, 6, none⟩ (.int .i64 (wrap64 (us + 1)))).setCell ⟨g, 5, none⟩ (.int .i64 (wrap64 (at_ + 1)))).alloc (.cells #[.int .i64 18, .int .i64 n] 36)) ((w.heap.size, (.cells #[.int .i64 18, .int .i64 n] 36)) :: K) g ⟨cs, y :: st, wrap64 (at_ + 1), en, rt⟩ (wrap64 (us + 1)) := ((h.setUs _).setAt _).moreAt _ _ (by rw [vm_ssz, vm_ssz])
  obtain ⟨vS, q⟩ := h
  simp only [List.reverse_cons] at q
  obtain ⟨b_, c, rfl, nb, nl, nc, z1⟩ := rf_top q
  rw [show (st.reverse).length = st.length from by simp] at nc z1
  have nb2 : g ≠ b_ := fun e => nb e.symm
  have nb3 : b_ ≠ w.heap.size := Nat.ne_of_lt nl
  have d4 := blk_cell q.hk 4
  simp only [show (st.reverse).length = st.length from by simp] at d4
  have hvl := blk_lt q.hk
  have n1 : g ≠ w.heap.size := Nat.ne_of_lt hvl
  have n2 : w.heap.size ≠ g := fun e => n1 e.symm
  have d5 := blk_cell q.hk 5
  have d6 := blk_cell q.hk 6
  have f5 := blk_frozen q.hk 5
  have f6 := blk_frozen q.hk 6
  simp only [List.getElem?_toArray, List.getElem?_cons_zero, List.getElem?_cons_succ] at d4 d5 d6
  have hsz : (st.length : Int) ≤ 990 := by omega
  replace q := Aside0.mk q
  replace h0 := Aside0.mk h0
  replace h1 := Aside0.mk h1
  have d8 := blk_cell q.out.hk 8
  have f8 := blk_frozen q.out.hk 8
  have d9 := blk_cell q.out.hk 9
  have f9 := blk_frozen q.out.hk 9
  simp only [List.getElem?_toArray, List.getElem?_cons_zero, List.getElem?_cons_succ] at d8 d9
  go_enter Try.func58, Try.ntmps58
  go_wp2
  go_end0
  exact ⟨rfl, ((((h0.out.setUs _).setAt _).setOver _).setRet _).came (below_alloc (Below.refl _ _) _)⟩
set_option maxRecDepth 100000 in
set_option maxHeartbeats 2000000 in
theorem rdo_load0E {w0 w : World} {K : List (Nat × Obj)} {g : Nat} {cs st : List Int} {at_ us en rt : Int} (n kind arg : Int) (hn : n = 0) (h : RfB w0 w K g ⟨cs, [], at_, en, rt⟩ us) (hsm : st.length ≤ 985) :
    Calls Try.prog 58 #[.pointer (some ⟨g, 0, none⟩), .agg #[.int .i64 4, .int .i64 n], .int .i64 kind, .int .i64 arg] w fun e w' => e = .returned (.tuple #[]) ∧ RfB w0 w' K g ⟨cs, rdOf 0 cs 0 :: [], wrap64 (at_ + 1), en, rt⟩ (wrap64 (us + 1)) := by
  subst hn
  have h0 := h
  have h1 : RfB w0 (((w.setCell ⟨g, 6, none⟩ (.int .i64 (wrap64 (us + 1)))).setCell ⟨g, 5, none⟩ (.int .i64 (wrap64 (at_ + 1)))).alloc (.cells #[.int .i64 4, .int .i64 0] 36)) ((w.heap.size, (.cells #[.int .i64 4, .int .i64 0] 36)) :: K) g ⟨cs, [], wrap64 (at_ + 1), en, rt⟩ (wrap64 (us + 1)) := ((h.setUs _).setAt _).moreAt _ _ (by rw [vm_ssz, vm_ssz])
  obtain ⟨vS, q⟩ := h
  obtain ⟨A, c, rfl⟩ := Kd.R_slice q.hS
  have d4 := blk_cell q.hk 4
  simp only [List.reverse_nil, List.length_nil] at d4
  have hvl := blk_lt q.hk
  have n1 : g ≠ w.heap.size := Nat.ne_of_lt hvl
  have n2 : w.heap.size ≠ g := fun e => n1 e.symm
  have d5 := blk_cell q.hk 5
  have d6 := blk_cell q.hk 6
  have f5 := blk_frozen q.hk 5
  have f6 := blk_frozen q.hk 6
  simp only [List.getElem?_toArray, List.getElem?_cons_zero, List.getElem?_cons_succ] at d4 d5 d6
  have hsz : (st.length : Int) ≤ 990 := by omega
  replace q := Aside0.mk q
  replace h0 := Aside0.mk h0
  replace h1 := Aside0.mk h1
  go_enter Try.func58, Try.ntmps58
  go_wp2
  refine vm_gen _ (fun W => RfB w0 W ((w.heap.size, .cells #[.int .i64 4, .int .i64 0] 36) :: K) g ⟨cs, [], wrap64 (at_ + 1), en, rt⟩ (wrap64 (us + 1))) h1.out ?_
  clear h1 d4 d5 d6 f5 f6
  intro W h1
  obtain ⟨v1, q1⟩ := h1
  have k1 := blk_cell (q1.kept _ List.mem_cons_self).1 1
  have k0 := blk_cell (q1.kept _ List.mem_cons_self).1 0
  have ck := blk_cell q1.hk 0
  have yk := blk_frozen q1.hk 0
  have h1 : Aside0 (RfB w0 W ((w.heap.size, .cells #[.int .i64 4, .int .i64 0] 36) :: K) g ⟨cs, [], wrap64 (at_ + 1), en, rt⟩ (wrap64 (us + 1))) := ⟨⟨v1, q1⟩⟩
  simp only [List.getElem?_toArray, List.getElem?_cons_zero, List.getElem?_cons_succ] at k0 k1 ck
  clear q1
  go_region_held3 (fun W_ => W_.cell? ⟨g, 0, none⟩ = some (.int .i64 (rdOf 0 cs 0)) ∧ W_.cell? ⟨w.heap.size, 1, none⟩ = some (.int .i64 0)) (first | assumption | exact ⟨ck, k1⟩ | exact ⟨ck2, k2⟩) ((go_at_call 80; (with_reducible refine (rf_one (s := []) (t := []) 0 _ h1.out.drew (by first | omega | (simp only [List.length_cons]; omega) | simp) (by simp) rfl).mono ?_); rintro e W2 ⟨rfl, h2⟩; obtain ⟨v2, q2⟩ := h2; have k2 := blk_cell (q2.kept _ List.mem_cons_self).1 1; have ck2 := blk_cell q2.hk 0; simp only [List.getElem?_toArray, List.getElem?_cons_zero, List.getElem?_cons_succ] at k2 ck2; replace h2 : Aside0 (RfB w0 W2 _ _ _ _) := ⟨⟨v2, q2⟩⟩; clear q2))
  go_wp2
  go_end0
  exact ⟨rfl, h2.out.less (fun q hq => List.mem_cons_of_mem _ hq)⟩
set_option maxRecDepth 100000 in
set_option maxHeartbeats 2000000 in
theorem rdo_load0N {w0 w : World} {K : List (Nat × Obj)} {g : Nat} {cs st : List Int} {at_ us en rt : Int} (n kind arg y : Int) (hn : n = 0) (h : RfB w0 w K g ⟨cs, y :: st, at_, en, rt⟩ us) (hsm : st.length ≤ 985) :
    Calls Try.prog 58 #[.pointer (some ⟨g, 0, none⟩), .agg #[.int .i64 4, .int .i64 n], .int .i64 kind, .int .i64 arg] w fun e w' => e = .returned (.tuple #[]) ∧ RfB w0 w' K g ⟨cs, rdOf 0 cs 0 :: y :: st, wrap64 (at_ + 1), en, rt⟩ (wrap64 (us + 1)) := by
  subst hn
  have h0 := h
  have h1 : RfB w0 (((w.setCell ⟨g, 6, none⟩ (.int .i64 (wrap64 (us + 1)))).setCell ⟨g, 5, none⟩ (.int .i64 (wrap64 (at_ + 1)))).alloc (.cells #[.int .i64 4, .int .i64 0] 36)) ((w.heap.size, (.cells #[.int .i64 4, .int .i64 0] 36)) :: K) g ⟨cs, y :: st, wrap64 (at_ + 1), en, rt⟩ (wrap64 (us + 1)) := ((h.setUs _).setAt _).moreAt _ _ (by rw [vm_ssz, vm_ssz])
  obtain ⟨vS, q⟩ := h
  simp only [List.reverse_cons] at q
  obtain ⟨b_, c, rfl, nb, nl, nc, z1⟩ := rf_top q
  rw [show (st.reverse).length = st.length from by simp] at nc z1
  have nb2 : g ≠ b_ := fun e => nb e.symm
  have nb3 : b_ ≠ w.heap.size := Nat.ne_of_lt nl
  have d4 := blk_cell q.hk 4
  simp only [show (st.reverse).length = st.length from by simp] at d4
  have hvl := blk_lt q.hk
  have n1 : g ≠ w.heap.size := Nat.ne_of_lt hvl
  have n2 : w.heap.size ≠ g := fun e => n1 e.symm
  have d5 := blk_cell q.hk 5
  have d6 := blk_cell q.hk 6
  have f5 := blk_frozen q.hk 5
  have f6 := blk_frozen q.hk 6
  simp only [List.getElem?_toArray, List.getElem?_cons_zero, List.getElem?_cons_succ] at d4 d5 d6
  have hsz : (st.length : Int) ≤ 990 := by omega
  replace q := Aside0.mk q
  replace h0 := Aside0.mk h0
  replace h1 := Aside0.mk h1
  go_enter Try.func58, Try.ntmps58
  go_wp2
  refine vm_gen _ (fun W => RfB w0 W ((w.heap.size, .cells #[.int .i64 4, .int .i64 0] 36) :: K) g ⟨cs, y :: st, wrap64 (at_ + 1), en, rt⟩ (wrap64 (us + 1))) h1.out ?_
  clear h1 d4 d5 d6 f5 f6
  intro W h1
  obtain ⟨v1, q1⟩ := h1
  have k1 := blk_cell (q1.kept _ List.mem_cons_self).1 1
  have k0 := blk_cell (q1.kept _ List.mem_cons_self).1 0
  have ck := blk_cell q1.hk 0
  have yk := blk_frozen q1.hk 0
  have h1 : Aside0 (RfB w0 W ((w.heap.size, .cells #[.int .i64 4, .int .i64 0] 36) :: K) g ⟨cs, y :: st, wrap64 (at_ + 1), en, rt⟩ (wrap64 (us + 1))) := ⟨⟨v1, q1⟩⟩
  simp only [List.getElem?_toArray, List.getElem?_cons_zero, List.getElem?_cons_succ] at k0 k1 ck
  clear q1
  go_region_held3 (fun W_ => W_.cell? ⟨g, 0, none⟩ = some (.int .i64 (rdOf 0 cs 0)) ∧ W_.cell? ⟨w.heap.size, 1, none⟩ = some (.int .i64 0)) (first | assumption | exact ⟨ck, k1⟩ | exact ⟨ck2, k2⟩) ((go_at_call 80; (with_reducible refine (rf_one (s := _) (t := []) 0 _ h1.out.drew (by first | omega | (simp only [List.length_cons]; omega) | simp) (by simp) rfl).mono ?_); rintro e W2 ⟨rfl, h2⟩; obtain ⟨v2, q2⟩ := h2; have k2 := blk_cell (q2.kept _ List.mem_cons_self).1 1; have ck2 := blk_cell q2.hk 0; simp only [List.getElem?_toArray, List.getElem?_cons_zero, List.getElem?_cons_succ] at k2 ck2; replace h2 : Aside0 (RfB w0 W2 _ _ _ _) := ⟨⟨v2, q2⟩⟩; clear q2))
  go_wp2
  go_end0
  exact ⟨rfl, h2.out.less (fun q hq => List.mem_cons_of_mem _ hq)⟩
set_option maxRecDepth 100000 in
set_option maxHeartbeats 2000000 in
theorem rdo_store0 {w0 w : World} {K : List (Nat × Obj)} {g : Nat} {cs st : List Int} {at_ us en rt : Int} (n kind arg y : Int) (hn : n = 0) (h : RfB w0 w K g ⟨cs, y :: st, at_, en, rt⟩ us) (hsm : st.length ≤ 985) :
    Calls Try.prog 58 #[.pointer (some ⟨g, 0, none⟩), .agg #[.int .i64 5, .int .i64 n], .int .i64 kind, .int .i64 arg] w fun e w' => e = .returned (.tuple #[]) ∧ RfB w0 w' K g ⟨cs.set 0 y, st, wrap64 (at_ + 1), en, rt⟩ (wrap64 (us + 1)) := by
  subst hn
  have h0 := h
  have h1 : RfB w0 (((w.setCell ⟨g, 6, none⟩ (.int .i64 (wrap64 (us + 1)))).setCell ⟨g, 5, none⟩ (.int .i64 (wrap64 (at_ + 1)))).alloc (.cells #[.int .i64 5, .int .i64 0] 36)) ((w.heap.size, (.cells #[.int .i64 5, .int .i64 0] 36)) :: K) g ⟨cs, y :: st, wrap64 (at_ + 1), en, rt⟩ (wrap64 (us + 1)) := ((h.setUs _).setAt _).moreAt _ _ (by rw [vm_ssz, vm_ssz])
  obtain ⟨vS, q⟩ := h
  simp only [List.reverse_cons] at q
  obtain ⟨b_, c, rfl, nb, nl, nc, z1⟩ := rf_top q
  rw [show (st.reverse).length = st.length from by simp] at nc z1
  have nb2 : g ≠ b_ := fun e => nb e.symm
  have nb3 : b_ ≠ w.heap.size := Nat.ne_of_lt nl
  have d4 := blk_cell q.hk 4
  simp only [show (st.reverse).length = st.length from by simp] at d4
  have hvl := blk_lt q.hk
  have n1 : g ≠ w.heap.size := Nat.ne_of_lt hvl
  have n2 : w.heap.size ≠ g := fun e => n1 e.symm
  have d5 := blk_cell q.hk 5
  have d6 := blk_cell q.hk 6
  have f5 := blk_frozen q.hk 5
  have f6 := blk_frozen q.hk 6
  simp only [List.getElem?_toArray, List.getElem?_cons_zero, List.getElem?_cons_succ] at d4 d5 d6
  have hsz : (st.length : Int) ≤ 990 := by omega
  replace q := Aside0.mk q
  replace h0 := Aside0.mk h0
  replace h1 := Aside0.mk h1
  go_enter Try.func58, Try.ntmps58
  go_wp2
  refine vm_gen _ (fun W => RfB w0 W ((w.heap.size, .cells #[.int .i64 5, .int .i64 0] 36) :: K) g ⟨cs, y :: st, wrap64 (at_ + 1), en, rt⟩ (wrap64 (us + 1))) h1.out ?_
  clear h1 d4 d5 d6 f5 f6
  intro W h1
  obtain ⟨v1, q1⟩ := h1
  have k1 := blk_cell (q1.kept _ List.mem_cons_self).1 1
  have k0 := blk_cell (q1.kept _ List.mem_cons_self).1 0
  have ck := blk_cell q1.hk 0
  have yk := blk_frozen q1.hk 0
  have q1' := q1
  simp only [List.reverse_cons] at q1'
  obtain ⟨b2, c2, rfl, mb, ml, mc, y1⟩ := rf_top q1'
  rw [show (st.reverse).length = st.length from by simp] at mc
  have d4 := blk_cell q1.hk 4
  simp only [show (st.reverse).length = st.length from by simp] at d4
  have f4 := blk_frozen q1.hk 4
  replace q1' := Aside0.mk q1'
  have h1 : Aside0 (RfB w0 W ((w.heap.size, .cells #[.int .i64 5, .int .i64 0] 36) :: K) g ⟨cs, y :: st, wrap64 (at_ + 1), en, rt⟩ (wrap64 (us + 1))) := ⟨⟨_, q1⟩⟩
  simp only [List.getElem?_toArray, List.getElem?_cons_zero, List.getElem?_cons_succ] at k0 k1 ck d4
  clear q1
  have hcut := fun (W : World) => rf_cut (b := b2) (n := st.length + 1) (m := st.length) (c := c2) (by omega) mc W
  go_region_held3 (fun W_ => W_.cell? ⟨w.heap.size, 1, none⟩ = some (.int .i64 0)) (first | assumption | exact k1 | exact rf_box (h1.out.drew.setCs0 y)) (fail)
  go_wp2
  go_end0
  exact ⟨rfl, RfB.less ⟨_, ((q1'.out.came (below_drew (Below.refl _ _))).setCs0 y).pop (m := st.length) (by simp) (by simp)⟩ (fun q hq => List.mem_cons_of_mem _ hq)⟩
set_option maxRecDepth 100000 in
set_option maxHeartbeats 2000000 in
theorem rdo_load1E {w0 w : World} {K : List (Nat × Obj)} {g : Nat} {cs st : List Int} {at_ us en rt : Int} (n kind arg : Int) (hn : n = 1) (h : RfB w0 w K g ⟨cs, [], at_, en, rt⟩ us) (hsm : st.length ≤ 985) :
    Calls Try.prog 58 #[.pointer (some ⟨g, 0, none⟩), .agg #[.int .i64 4, .int .i64 n], .int .i64 kind, .int .i64 arg] w fun e w' => e = .returned (.tuple #[]) ∧ RfB w0 w' K g ⟨cs, rdOf 0 cs 1 :: [], wrap64 (at_ + 1), en, rt⟩ (wrap64 (us + 1)) := by
  subst hn
  have h0 := h
  have h1 : RfB w0 (((w.setCell ⟨g, 6, none⟩ (.int .i64 (wrap64 (us + 1)))).setCell ⟨g, 5, none⟩ (.int .i64 (wrap64 (at_ + 1)))).alloc (.cells #[.int .i64 4, .int .i64 1] 36)) ((w.heap.size, (.cells #[.int .i64 4, .int .i64 1] 36)) :: K) g ⟨cs, [], wrap64 (at_ + 1), en, rt⟩ (wrap64 (us + 1)) := ((h.setUs _).setAt _).moreAt _ _ (by rw [vm_ssz, vm_ssz])
  obtain ⟨vS, q⟩ := h
  obtain ⟨A, c, rfl⟩ := Kd.R_slice q.hS
  have d4 := blk_cell q.hk 4
  simp only [List.reverse_nil, List.length_nil] at d4
  have hvl := blk_lt q.hk
  have n1 : g ≠ w.heap.size := Nat.ne_of_lt hvl
  have n2 : w.heap.size ≠ g := fun e => n1 e.symm
  have d5 := blk_cell q.hk 5
  have d6 := blk_cell q.hk 6
  have f5 := blk_frozen q.hk 5
  have f6 := blk_frozen q.hk 6
  simp only [List.getElem?_toArray, List.getElem?_cons_zero, List.getElem?_cons_succ] at d4 d5 d6
  have hsz : (st.length : Int) ≤ 990 := by omega
  replace q := Aside0.mk q
  replace h0 := Aside0.mk h0
  replace h1 := Aside0.mk h1
  go_enter Try.func58, Try.ntmps58
  go_wp2
  refine vm_gen _ (fun W => RfB w0 W ((w.heap.size, .cells #[.int .i64 4, .int .i64 1] 36) :: K) g ⟨cs, [], wrap64 (at_ + 1), en, rt⟩ (wrap64 (us + 1))) h1.out ?_
  clear h1 d4 d5 d6 f5 f6
  intro W h1
  obtain ⟨v1, q1⟩ := h1
  have k1 := blk_cell (q1.kept _ List.mem_cons_self).1 1
  have k0 := blk_cell (q1.kept _ List.mem_cons_self).1 0
  have ck := blk_cell q1.hk 1
  have yk := blk_frozen q1.hk 1
  have h1 : Aside0 (RfB w0 W ((w.heap.size, .cells #[.int .i64 4, .int .i64 1] 36) :: K) g ⟨cs, [], wrap64 (at_ + 1), en, rt⟩ (wrap64 (us + 1))) := ⟨⟨v1, q1⟩⟩
  simp only [List.getElem?_toArray, List.getElem?_cons_zero, List.getElem?_cons_succ] at k0 k1 ck
  clear q1
  go_region_held3 (fun W_ => W_.cell? ⟨g, 1, none⟩ = some (.int .i64 (rdOf 0 cs 1)) ∧ W_.cell? ⟨w.heap.size, 1, none⟩ = some (.int .i64 1)) (first | assumption | exact ⟨ck, k1⟩ | exact ⟨ck2, k2⟩) ((go_at_call 80; (with_reducible refine (rf_one (s := []) (t := []) 0 _ h1.out.drew (by first | omega | (simp only [List.length_cons]; omega) | simp) (by simp) rfl).mono ?_); rintro e W2 ⟨rfl, h2⟩; obtain ⟨v2, q2⟩ := h2; have k2 := blk_cell (q2.kept _ List.mem_cons_self).1 1; have ck2 := blk_cell q2.hk 1; simp only [List.getElem?_toArray, List.getElem?_cons_zero, List.getElem?_cons_succ] at k2 ck2; replace h2 : Aside0 (RfB w0 W2 _ _ _ _) := ⟨⟨v2, q2⟩⟩; clear q2))
  go_wp2
  go_end0
  exact ⟨rfl, h2.out.less (fun q hq => List.mem_cons_of_mem _ hq)⟩
set_option maxRecDepth 100000 in
set_option maxHeartbeats 2000000 in
theorem rdo_load1N {w0 w : World} {K : List (Nat × Obj)} {g : Nat} {cs st : List Int} {at_ us en rt : Int} (n kind arg y : Int) (hn : n = 1) (h : RfB w0 w K g ⟨cs, y :: st, at_, en, rt⟩ us) (hsm : st.length ≤ 985) :
    Calls Try.prog 58 #[.pointer (some ⟨g, 0, none⟩), .agg #[.int .i64 4, .int .i64 n], .int .i64 kind, .int .i64 arg] w fun e w' => e = .returned (.tuple #[]) ∧ RfB w0 w' K g ⟨cs, rdOf 0 cs 1 :: y :: st, wrap64 (at_ + 1), en, rt⟩ (wrap64 (us + 1)) := by
  subst hn
  have h0 := h
  have h1 : RfB w0 (((w.setCell ⟨g, 6, none⟩ (.int .i64 (wrap64 (us + 1)))).setCell ⟨g, 5, none⟩ (.int .i64 (wrap64 (at_ + 1)))).alloc (.cells #[.int .i64 4, .int .i64 1] 36)) ((w.heap.size, (.cells #[.int .i64 4, .int .i64 1] 36)) :: K) g ⟨cs, y :: st, wrap64 (at_ + 1), en, rt⟩ (wrap64 (us + 1)) := ((h.setUs _).setAt _).moreAt _ _ (by rw [vm_ssz, vm_ssz])
  obtain ⟨vS, q⟩ := h
  simp only [List.reverse_cons] at q
  obtain ⟨b_, c, rfl, nb, nl, nc, z1⟩ := rf_top q
  rw [show (st.reverse).length = st.length from by simp] at nc z1
  have nb2 : g ≠ b_ := fun e => nb e.symm
  have nb3 : b_ ≠ w.heap.size := Nat.ne_of_lt nl
  have d4 := blk_cell q.hk 4
  simp only [show (st.reverse).length = st.length from by simp] at d4
  have hvl := blk_lt q.hk
  have n1 : g ≠ w.heap.size := Nat.ne_of_lt hvl
  have n2 : w.heap.size ≠ g := fun e => n1 e.symm
  have d5 := blk_cell q.hk 5
  have d6 := blk_cell q.hk 6
  have f5 := blk_frozen q.hk 5
  have f6 := blk_frozen q.hk 6
  simp only [List.getElem?_toArray, List.getElem?_cons_zero, List.getElem?_cons_succ] at d4 d5 d6
  have hsz : (st.length : Int) ≤ 990 := by omega
  replace q := Aside0.mk q
  replace h0 := Aside0.mk h0
  replace h1 := Aside0.mk h1
  go_enter Try.func58, Try.ntmps58
  go_wp2
  refine vm_gen _ (fun W => RfB w0 W ((w.heap.size, .cells #[.int .i64 4, .int .i64 1] 36) :: K) g ⟨cs, y :: st, wrap64 (at_ + 1), en, rt⟩ (wrap64 (us + 1))) h1.out ?_
  clear h1 d4 d5 d6 f5 f6
  intro W h1
  obtain ⟨v1, q1⟩ := h1
  have k1 := blk_cell (q1.kept _ List.mem_cons_self).1 1
  have k0 := blk_cell (q1.kept _ List.mem_cons_self).1 0
  have ck := blk_cell q1.hk 1
  have yk := blk_frozen q1.hk 1
  have h1 : Aside0 (RfB w0 W ((w.heap.size, .cells #[.int .i64 4, .int .i64 1] 36) :: K) g ⟨cs, y :: st, wrap64 (at_ + 1), en, rt⟩ (wrap64 (us + 1))) := ⟨⟨v1, q1⟩⟩
  simp only [List.getElem?_toArray, List.getElem?_cons_zero, List.getElem?_cons_succ] at k0 k1 ck
  clear q1
  go_region_held3 (fun W_ => W_.cell? ⟨g, 1, none⟩ = some (.int .i64 (rdOf 0 cs 1)) ∧ W_.cell? ⟨w.heap.size, 1, none⟩ = some (.int .i64 1)) (first | assumption | exact ⟨ck, k1⟩ | exact ⟨ck2, k2⟩) ((go_at_call 80; (with_reducible refine (rf_one (s := _) (t := []) 0 _ h1.out.drew (by first | omega | (simp only [List.length_cons]; omega) | simp) (by simp) rfl).mono ?_); rintro e W2 ⟨rfl, h2⟩; obtain ⟨v2, q2⟩ := h2; have k2 := blk_cell (q2.kept _ List.mem_cons_self).1 1; have ck2 := blk_cell q2.hk 1; simp only [List.getElem?_toArray, List.getElem?_cons_zero, List.getElem?_cons_succ] at k2 ck2; replace h2 : Aside0 (RfB w0 W2 _ _ _ _) := ⟨⟨v2, q2⟩⟩; clear q2))
  go_wp2
  go_end0
  exact ⟨rfl, h2.out.less (fun q hq => List.mem_cons_of_mem _ hq)⟩
set_option maxRecDepth 100000 in
set_option maxHeartbeats 2000000 in
theorem rdo_store1 {w0 w : World} {K : List (Nat × Obj)} {g : Nat} {cs st : List Int} {at_ us en rt : Int} (n kind arg y : Int) (hn : n = 1) (h : RfB w0 w K g ⟨cs, y :: st, at_, en, rt⟩ us) (hsm : st.length ≤ 985) :
    Calls Try.prog 58 #[.pointer (some ⟨g, 0, none⟩), .agg #[.int .i64 5, .int .i64 n], .int .i64 kind, .int .i64 arg] w fun e w' => e = .returned (.tuple #[]) ∧ RfB w0 w' K g ⟨cs.set 1 y, st, wrap64 (at_ + 1), en, rt⟩ (wrap64 (us + 1)) := by
  subst hn
  have h0 := h
  have h1 : RfB w0 (((w.setCell ⟨g, 6, none⟩ (.int .i64 (wrap64 (us + 1)))).setCell ⟨g, 5, none⟩ (.int .i64 (wrap64 (at_ + 1)))).alloc (.cells #[.int .i64 5, .int .i64 1] 36)) ((w.heap.size, (.cells #[.int .i64 5, .int .i64 1] 36)) :: K) g ⟨cs, y :: st, wrap64 (at_ + 1), en, rt⟩ (wrap64 (us + 1)) := ((h.setUs _).setAt _).moreAt _ _ (by rw [vm_ssz, vm_ssz])
  obtain ⟨vS, q⟩ := h
  simp only [List.reverse_cons] at q
  obtain ⟨b_, c, rfl, nb, nl, nc, z1⟩ := rf_top q
  rw [show (st.reverse).length = st.length from by simp] at nc z1
  have nb2 : g ≠ b_ := fun e => nb e.symm
  have nb3 : b_ ≠ w.heap.size := Nat.ne_of_lt nl
  have d4 := blk_cell q.hk 4
  simp only [show (st.reverse).length = st.length from by simp] at d4
  have hvl := blk_lt q.hk
  have n1 : g ≠ w.heap.size := Nat.ne_of_lt hvl
  have n2 : w.heap.size ≠ g := fun e => n1 e.symm
  have d5 := blk_cell q.hk 5
  have d6 := blk_cell q.hk 6
  have f5 := blk_frozen q.hk 5
  have f6 := blk_frozen q.hk 6
  simp only [List.getElem?_toArray, List.getElem?_cons_zero, List.getElem?_cons_succ] at d4 d5 d6
  have hsz : (st.length : Int) ≤ 990 := by omega
  replace q := Aside0.mk q
  replace h0 := Aside0.mk h0
  replace h1 := Aside0.mk h1
  go_enter Try.func58, Try.ntmps58
  go_wp2
  refine vm_gen _ (fun W => RfB w0 W ((w.heap.size, .cells #[.int .i64 5, .int .i64 1] 36) :: K) g ⟨cs, y :: st, wrap64 (at_ + 1), en, rt⟩ (wrap64 (us + 1))) h1.out ?_
  clear h1 d4 d5 d6 f5 f6
  intro W h1
  obtain ⟨v1, q1⟩ := h1
  have k1 := blk_cell (q1.kept _ List.mem_cons_self).1 1
  have k0 := blk_cell (q1.kept _ List.mem_cons_self).1 0
  have ck := blk_cell q1.hk 1
  have yk := blk_frozen q1.hk 1
  have q1' := q1
  simp only [List.reverse_cons] at q1'
  obtain ⟨b2, c2, rfl, mb, ml, mc, y1⟩ := rf_top q1'
  rw [show (st.reverse).length = st.length from by simp] at mc
  have d4 := blk_cell q1.hk 4
  simp only [show (st.reverse).length = st.length from by simp] at d4
  have f4 := blk_frozen q1.hk 4
  replace q1' := Aside0.mk q1'
  have h1 : Aside0 (RfB w0 W ((w.heap.size, .cells #[.int .i64 5, .int .i64 1] 36) :: K) g ⟨cs, y :: st, wrap64 (at_ + 1), en, rt⟩ (wrap64 (us + 1))) := ⟨⟨_, q1⟩⟩
  simp only [List.getElem?_toArray, List.getElem?_cons_zero, List.getElem?_cons_succ] at k0 k1 ck d4
  clear q1
  have hcut := fun (W : World) => rf_cut (b := b2) (n := st.length + 1) (m := st.length) (c := c2) (by omega) mc W
  go_region_held3 (fun W_ => W_.cell? ⟨w.heap.size, 1, none⟩ = some (.int .i64 1)) (first | assumption | exact k1 | exact rf_box (h1.out.drew.setCs1 y)) (fail)
  go_wp2
  go_end0
  exact ⟨rfl, RfB.less ⟨_, ((q1'.out.came (below_drew (Below.refl _ _))).setCs1 y).pop (m := st.length) (by simp) (by simp)⟩ (fun q hq => List.mem_cons_of_mem _ hq)⟩
set_option maxRecDepth 100000 in
set_option maxHeartbeats 2000000 in
theorem rdo_load2E {w0 w : World} {K : List (Nat × Obj)} {g : Nat} {cs st : List Int} {at_ us en rt : Int} (n kind arg : Int) (hn : n = 2) (h : RfB w0 w K g ⟨cs, [], at_, en, rt⟩ us) (hsm : st.length ≤ 985) :
    Calls Try.prog 58 #[.pointer (some ⟨g, 0, none⟩), .agg #[.int .i64 4, .int .i64 n], .int .i64 kind, .int .i64 arg] w fun e w' => e = .returned (.tuple #[]) ∧ RfB w0 w' K g ⟨cs, rdOf 0 cs 2 :: [], wrap64 (at_ + 1), en, rt⟩ (wrap64 (us + 1)) := by
  subst hn
  have h0 := h
  have h1 : RfB w0 (((w.setCell ⟨g, 6, none⟩ (.int .i64 (wrap64 (us + 1)))).setCell ⟨g, 5, none⟩ (.int .i64 (wrap64 (at_ + 1)))).alloc (.cells #[.int .i64 4, .int .i64 2] 36)) ((w.heap.size, (.cells #[.int .i64 4, .int .i64 2] 36)) :: K) g ⟨cs, [], wrap64 (at_ + 1), en, rt⟩ (wrap64 (us + 1)) := ((h.setUs _).setAt _).moreAt _ _ (by rw [vm_ssz, vm_ssz])
  obtain ⟨vS, q⟩ := h
  obtain ⟨A, c, rfl⟩ := Kd.R_slice q.hS
  have d4 := blk_cell q.hk 4
  simp only [List.reverse_nil, List.length_nil] at d4
  have hvl := blk_lt q.hk
  have n1 : g ≠ w.heap.size := Nat.ne_of_lt hvl
  have n2 : w.heap.size ≠ g := fun e => n1 e.symm
  have d5 := blk_cell q.hk 5
  have d6 := blk_cell q.hk 6
  have f5 := blk_frozen q.hk 5
  have f6 := blk_frozen q.hk 6
  simp only [List.getElem?_toArray, List.getElem?_cons_zero, List.getElem?_cons_succ] at d4 d5 d6
  have hsz : (st.length : Int) ≤ 990 := by omega
  replace q := Aside0.mk q
  replace h0 := Aside0.mk h0
  replace h1 := Aside0.mk h1
  go_enter Try.func58, Try.ntmps58
  go_wp2
  refine vm_gen _ (fun W => RfB w0 W ((w.heap.size, .cells #[.int .i64 4, .int .i64 2] 36) :: K) g ⟨cs, [], wrap64 (at_ + 1), en, rt⟩ (wrap64 (us + 1))) h1.out ?_
  clear h1 d4 d5 d6 f5 f6
  intro W h1
  obtain ⟨v1, q1⟩ := h1
  have k1 := blk_cell (q1.kept _ List.mem_cons_self).1 1
  have k0 := blk_cell (q1.kept _ List.mem_cons_self).1 0
  have ck := blk_cell q1.hk 2
  have yk := blk_frozen q1.hk 2
  have h1 : Aside0 (RfB w0 W ((w.heap.size, .cells #[.int .i64 4, .int .i64 2] 36) :: K) g ⟨cs, [], wrap64 (at_ + 1), en, rt⟩ (wrap64 (us + 1))) := ⟨⟨v1, q1⟩⟩
  simp only [List.getElem?_toArray, List.getElem?_cons_zero, List.getElem?_cons_succ] at k0 k1 ck
  clear q1
  go_region_held3 (fun W_ => W_.cell? ⟨g, 2, none⟩ = some (.int .i64 (rdOf 0 cs 2)) ∧ W_.cell? ⟨w.heap.size, 1, none⟩ = some (.int .i64 2)) (first | assumption | exact ⟨ck, k1⟩ | exact ⟨ck2, k2⟩) ((go_at_call 80; (with_reducible refine (rf_one (s := []) (t := []) 0 _ h1.out.drew (by first | omega | (simp only [List.length_cons]; omega) | simp) (by simp) rfl).mono ?_); rintro e W2 ⟨rfl, h2⟩; obtain ⟨v2, q2⟩ := h2; have k2 := blk_cell (q2.kept _ List.mem_cons_self).1 1; have ck2 := blk_cell q2.hk 2; simp only [List.getElem?_toArray, List.getElem?_cons_zero, List.getElem?_cons_succ] at k2 ck2; replace h2 : Aside0 (RfB w0 W2 _ _ _ _) := ⟨⟨v2, q2⟩⟩; clear q2))
  go_wp2
  go_end0
  exact ⟨rfl, h2.out.less (fun q hq => List.mem_cons_of_mem _ hq)⟩
set_option maxRecDepth 100000 in
set_option maxHeartbeats 2000000 in
theorem rdo_load2N {w0 w : World} {K : List (Nat × Obj)} {g : Nat} {cs st : List Int} {at_ us en rt : Int} (n kind arg y : Int) (hn : n = 2) (h : RfB w0 w K g ⟨cs, y :: st, at_, en, rt⟩ us) (hsm : st.length ≤ 985) :
    Calls Try.prog 58 #[.pointer (some ⟨g, 0, none⟩), .agg #[.int .i64 4, .int .i64 n], .int .i64 kind, .int .i64 arg] w fun e w' => e = .returned (.tuple #[]) ∧ RfB w0 w' K g ⟨cs, rdOf 0 cs 2 :: y :: st, wrap64 (at_ + 1), en, rt⟩ (wrap64 (us + 1)) := by
  subst hn
  have h0 := h
  have h1 : RfB w0 (((w.setCell ⟨g, 6, none⟩ (.int .i64 (wrap64 (us + 1)))).setCell ⟨g, 5, none⟩ (.int .i64 (wrap64 (at_ + 1)))).alloc (.cells #[.int .i64 4, .int .i64 2] 36)) ((w.heap.size, (.cells #[.int .i64 4, .int .i64 2] 36)) :: K) g ⟨cs, y :: st, wrap64 (at_ + 1), en, rt⟩ (wrap64 (us + 1)) := ((h.setUs _).setAt _).moreAt _ _ (by rw [vm_ssz, vm_ssz])
  obtain ⟨vS, q⟩ := h
  simp only [List.reverse_cons] at q
  obtain ⟨b_, c, rfl, nb, nl, nc, z1⟩ := rf_top q
  rw [show (st.reverse).length = st.length from by simp] at nc z1
  have nb2 : g ≠ b_ := fun e => nb e.symm
  have nb3 : b_ ≠ w.heap.size := Nat.ne_of_lt nl
  have d4 := blk_cell q.hk 4
  simp only [show (st.reverse).length = st.length from by simp] at d4
  have hvl := blk_lt q.hk
  have n1 : g ≠ w.heap.size := Nat.ne_of_lt hvl
  have n2 : w.heap.size ≠ g := fun e => n1 e.symm
  have d5 := blk_cell q.hk 5
  have d6 := blk_cell q.hk 6
  have f5 := blk_frozen q.hk 5
  have f6 := blk_frozen q.hk 6
  simp only [List.getElem?_toArray, List.getElem?_cons_zero, List.getElem?_cons_succ] at d4 d5 d6
  have hsz : (st.length : Int) ≤ 990 := by omega
  replace q := Aside0.mk q
  replace h0 := Aside0.mk h0
  replace h1 := Aside0.mk h1
  go_enter Try.func58, Try.ntmps58
  go_wp2
  refine vm_gen _ (fun W => RfB w0 W ((w.heap.size, .cells #[.int .i64 4, .int .i64 2] 36) :: K) g ⟨cs, y :: st, wrap64 (at_ + 1), en, rt⟩ (wrap64 (us + 1))) h1.out ?_
  clear h1 d4 d5 d6 f5 f6
  intro W h1
  obtain ⟨v1, q1⟩ := h1
  have k1 := blk_cell (q1.kept _ List.mem_cons_self).1 1
  have k0 := blk_cell (q1.kept _ List.mem_cons_self).1 0
  have ck := blk_cell q1.hk 2
  have yk := blk_frozen q1.hk 2
  have h1 : Aside0 (RfB w0 W ((w.heap.size, .cells #[.int .i64 4, .int .i64 2] 36) :: K) g ⟨cs, y :: st, wrap64 (at_ + 1), en, rt⟩ (wrap64 (us + 1))) := ⟨⟨v1, q1⟩⟩
  simp only [List.getElem?_toArray, List.getElem?_cons_zero, List.getElem?_cons_succ] at k0 k1 ck
  clear q1
  go_region_held3 (fun W_ => W_.cell? ⟨g, 2, none⟩ = some (.int .i64 (rdOf 0 cs 2)) ∧ W_.cell? ⟨w.heap.size, 1, none⟩ = some (.int .i64 2)) (first | assumption | exact ⟨ck, k1⟩ | exact ⟨ck2, k2⟩) ((go_at_call 80; (with_reducible refine (rf_one (s := _) (t := []) 0 _ h1.out.drew (by first | omega | (simp only [List.length_cons]; omega) | simp) (by simp) rfl).mono ?_); rintro e W2 ⟨rfl, h2⟩; obtain ⟨v2, q2⟩ := h2; have k2 := blk_cell (q2.kept _ List.mem_cons_self).1 1; have ck2 := blk_cell q2.hk 2; simp only [List.getElem?_toArray, List.getElem?_cons_zero, List.getElem?_cons_succ] at k2 ck2; replace h2 : Aside0 (RfB w0 W2 _ _ _ _) := ⟨⟨v2, q2⟩⟩; clear q2))
  go_wp2
  go_end0
  exact ⟨rfl, h2.out.less (fun q hq => List.mem_cons_of_mem _ hq)⟩
set_option maxRecDepth 100000 in
set_option maxHeartbeats 2000000 in
theorem rdo_store2 {w0 w : World} {K : List (Nat × Obj)} {g : Nat} {cs st : List Int} {at_ us en rt : Int} (n kind arg y : Int) (hn : n = 2) (h : RfB w0 w K g ⟨cs, y :: st, at_, en, rt⟩ us) (hsm : st.length ≤ 985) :
    Calls Try.prog 58 #[.pointer (some ⟨g, 0, none⟩), .agg #[.int .i64 5, .int .i64 n], .int .i64 kind, .int .i64 arg] w fun e w' => e = .returned (.tuple #[]) ∧ RfB w0 w' K g ⟨cs.set 2 y, st, wrap64 (at_ + 1), en, rt⟩ (wrap64 (us + 1)) := by
  subst hn
  have h0 := h
  have h1 : RfB w0 (((w.setCell ⟨g, 6, none⟩ (.int .i64 (wrap64 (us + 1)))).setCell ⟨g, 5, none⟩ (.int .i64 (wrap64 (at_ + 1)))).alloc (.cells #[.int .i64 5, .int .i64 2] 36)) ((w.heap.size, (.cells #[.int .i64 5, .int .i64 2] 36)) :: K) g ⟨cs, y :: st, wrap64 (at_ + 1), en, rt⟩ (wrap64 (us + 1)) := ((h.setUs _).setAt _).moreAt _ _ (by rw [vm_ssz, vm_ssz])
  obtain ⟨vS, q⟩ := h
  simp only [List.reverse_cons] at q
  obtain ⟨b_, c, rfl, nb, nl, nc, z1⟩ := rf_top q
  rw [show (st.reverse).length = st.length from by simp] at nc z1
  have nb2 : g ≠ b_ := fun e => nb e.symm
  have nb3 : b_ ≠ w.heap.size := Nat.ne_of_lt nl
  have d4 := blk_cell q.hk 4
  simp only [show (st.reverse).length = st.length from by simp] at d4
  have hvl := blk_lt q.hk
  have n1 : g ≠ w.heap.size := Nat.ne_of_lt hvl
  have n2 : w.heap.size ≠ g := fun e => n1 e.symm
  have d5 := blk_cell q.hk 5
  have d6 := blk_cell q.hk 6
  have f5 := blk_frozen q.hk 5
  have f6 := blk_frozen q.hk 6
  simp only [List.getElem?_toArray, List.getElem?_cons_zero, List.getElem?_cons_succ] at d4 d5 d6
  have hsz : (st.length : Int) ≤ 990 := by omega
  replace q := Aside0.mk q
  replace h0 := Aside0.mk h0
  replace h1 := Aside0.mk h1
  go_enter Try.func58, Try.ntmps58
  go_wp2
  refine vm_gen _ (fun W => RfB w0 W ((w.heap.size, .cells #[.int .i64 5, .int .i64 2] 36) :: K) g ⟨cs, y :: st, wrap64 (at_ + 1), en, rt⟩ (wrap64 (us + 1))) h1.out ?_
  clear h1 d4 d5 d6 f5 f6
  intro W h1
  obtain ⟨v1, q1⟩ := h1
  have k1 := blk_cell (q1.kept _ List.mem_cons_self).1 1
  have k0 := blk_cell (q1.kept _ List.mem_cons_self).1 0
  have ck := blk_cell q1.hk 2
  have yk := blk_frozen q1.hk 2
  have q1' := q1
  simp only [List.reverse_cons] at q1'
  obtain ⟨b2, c2, rfl, mb, ml, mc, y1⟩ := rf_top q1'
  rw [show (st.reverse).length = st.length from by simp] at mc
  have d4 := blk_cell q1.hk 4
  simp only [show (st.reverse).length = st.length from by simp] at d4
  have f4 := blk_frozen q1.hk 4
  replace q1' := Aside0.mk q1'
  have h1 : Aside0 (RfB w0 W ((w.heap.size, .cells #[.int .i64 5, .int .i64 2] 36) :: K) g ⟨cs, y :: st, wrap64 (at_ + 1), en, rt⟩ (wrap64 (us + 1))) := ⟨⟨_, q1⟩⟩
  simp only [List.getElem?_toArray, List.getElem?_cons_zero, List.getElem?_cons_succ] at k0 k1 ck d4
  clear q1
  have hcut := fun (W : World) => rf_cut (b := b2) (n := st.length + 1) (m := st.length) (c := c2) (by omega) mc W
  go_region_held3 (fun W_ => W_.cell? ⟨w.heap.size, 1, none⟩ = some (.int .i64 2)) (first | assumption | exact k1 | exact rf_box (h1.out.drew.setCs2 y)) (fail)
  go_wp2
  go_end0
  exact ⟨rfl, RfB.less ⟨_, ((q1'.out.came (below_drew (Below.refl _ _))).setCs2 y).pop (m := st.length) (by simp) (by simp)⟩ (fun q hq => List.mem_cons_of_mem _ hq)⟩
set_option maxRecDepth 100000 in
set_option maxHeartbeats 2000000 in
theorem rdo_load3E {w0 w : World} {K : List (Nat × Obj)} {g : Nat} {cs st : List Int} {at_ us en rt : Int} (n kind arg : Int) (hn : n = 3) (h : RfB w0 w K g ⟨cs, [], at_, en, rt⟩ us) (hsm : st.length ≤ 985) :
    Calls Try.prog 58 #[.pointer (some ⟨g, 0, none⟩), .agg #[.int .i64 4, .int .i64 n], .int .i64 kind, .int .i64 arg] w fun e w' => e = .returned (.tuple #[]) ∧ RfB w0 w' K g ⟨cs, rdOf 0 cs 3 :: [], wrap64 (at_ + 1), en, rt⟩ (wrap64 (us + 1)) := by
  subst hn
  have h0 := h
  have h1 : RfB w0 (((w.setCell ⟨g, 6, none⟩ (.int .i64 (wrap64 (us + 1)))).setCell ⟨g, 5, none⟩ (.int .i64 (wrap64 (at_ + 1)))).alloc (.cells #[.int .i64 4, .int .i64 3] 36)) ((w.heap.size, (.cells #[.int .i64 4, .int .i64 3] 36)) :: K) g ⟨cs, [], wrap64 (at_ + 1), en, rt⟩ (wrap64 (us + 1)) := ((h.setUs _).setAt _).moreAt _ _ (by rw [vm_ssz, vm_ssz])
  obtain ⟨vS, q⟩ := h
  obtain ⟨A, c, rfl⟩ := Kd.R_slice q.hS
  have d4 := blk_cell q.hk 4
  simp only [List.reverse_nil, List.length_nil] at d4
  have hvl := blk_lt q.hk
  have n1 : g ≠ w.heap.size := Nat.ne_of_lt hvl
  have n2 : w.heap.size ≠ g := fun e => n1 e.symm
  have d5 := blk_cell q.hk 5
  have d6 := blk_cell q.hk 6
  have f5 := blk_frozen q.hk 5
  have f6 := blk_frozen q.hk 6
  simp only [List.getElem?_toArray, List.getElem?_cons_zero, List.getElem?_cons_succ] at d4 d5 d6
  have hsz : (st.length : Int) ≤ 990 := by omega
  replace q := Aside0.mk q
  replace h0 := Aside0.mk h0
  replace h1 := Aside0.mk h1
  go_enter Try.func58, Try.ntmps58
  go_wp2
  refine vm_gen _ (fun W => RfB w0 W ((w.heap.size, .cells #[.int .i64 4, .int .i64 3] 36) :: K) g ⟨cs, [], wrap64 (at_ + 1), en, rt⟩ (wrap64 (us + 1))) h1.out ?_
  clear h1 d4 d5 d6 f5 f6
  intro W h1
  obtain ⟨v1, q1⟩ := h1
  have k1 := blk_cell (q1.kept _ List.mem_cons_self).1 1
  have k0 := blk_cell (q1.kept _ List.mem_cons_self).1 0
  have ck := blk_cell q1.hk 3
  have yk := blk_frozen q1.hk 3
  have h1 : Aside0 (RfB w0 W ((w.heap.size, .cells #[.int .i64 4, .int .i64 3] 36) :: K) g ⟨cs, [], wrap64 (at_ + 1), en, rt⟩ (wrap64 (us + 1))) := ⟨⟨v1, q1⟩⟩
  simp only [List.getElem?_toArray, List.getElem?_cons_zero, List.getElem?_cons_succ] at k0 k1 ck
  clear q1
  go_region_held3 (fun W_ => W_.cell? ⟨g, 3, none⟩ = some (.int .i64 (rdOf 0 cs 3)) ∧ W_.cell? ⟨w.heap.size, 1, none⟩ = some (.int .i64 3)) (first | assumption | exact ⟨ck, k1⟩ | exact ⟨ck2, k2⟩) ((go_at_call 80; (with_reducible refine (rf_one (s := []) (t := []) 0 _ h1.out.drew (by first | omega | (simp only [List.length_cons]; omega) | simp) (by simp) rfl).mono ?_); rintro e W2 ⟨rfl, h2⟩; obtain ⟨v2, q2⟩ := h2; have k2 := blk_cell (q2.kept _ List.mem_cons_self).1 1; have ck2 := blk_cell q2.hk 3; simp only [List.getElem?_toArray, List.getElem?_cons_zero, List.getElem?_cons_succ] at k2 ck2; replace h2 : Aside0 (RfB w0 W2 _ _ _ _) := ⟨⟨v2, q2⟩⟩; clear q2))
  go_wp2
  go_end0
  exact ⟨rfl, h2.out.less (fun q hq => List.mem_cons_of_mem _ hq)⟩
set_option maxRecDepth 100000 in
set_option maxHeartbeats 2000000 in
theorem rdo_load3N {w0 w : World} {K : List (Nat × Obj)} {g : Nat} {cs st : List Int} {at_ us en rt : Int} (n kind arg y : Int) (hn : n = 3) (h : RfB w0 w K g ⟨cs, y :: st, at_, en, rt⟩ us) (hsm : st.length ≤ 985) :
    Calls Try.prog 58 #[.pointer (some ⟨g, 0, none⟩), .agg #[.int .i64 4, .int .i64 n], .int .i64 kind, .int .i64 arg] w fun e w' => e = .returned (.tuple #[]) ∧ RfB w0 w' K g ⟨cs, rdOf 0 cs 3 :: y :: st, wrap64 (at_ + 1), en, rt⟩ (wrap64 (us + 1)) := by
  subst hn
  have h0 := h
  have h1 : RfB w0 (((w.setCell ⟨g, 6, none⟩ (.int .i64 (wrap64 (us + 1)))).setCell ⟨g, 5, none⟩ (.int .i64 (wrap64 (at_ + 1)))).alloc (.cells #[.int .i64 4, .int .i64 3] 36)) ((w.heap.size, (.cells #[.int .i64 4, .int .i64 3] 36)) :: K) g ⟨cs, y :: st, wrap64 (at_ + 1), en, rt⟩ (wrap64 (us + 1)) := ((h.setUs _).setAt _).moreAt _ _ (by rw [vm_ssz, vm_ssz])
  obtain ⟨vS, q⟩ := h
  simp only [List.reverse_cons] at q
  obtain ⟨b_, c, rfl, nb, nl, nc, z1⟩ := rf_top q
  rw [show (st.reverse).length = st.length from by simp] at nc z1
  have nb2 : g ≠ b_ := fun e => nb e.symm
  have nb3 : b_ ≠ w.heap.size := Nat.ne_of_lt nl
  have d4 := blk_cell q.hk 4
  simp only [show (st.reverse).length = st.length from by simp] at d4
  have hvl := blk_lt q.hk
  have n1 : g ≠ w.heap.size := Nat.ne_of_lt hvl
  have n2 : w.heap.size ≠ g := fun e => n1 e.symm
  have d5 := blk_cell q.hk 5
  have d6 := blk_cell q.hk 6
  have f5 := blk_frozen q.hk 5
  have f6 := blk_frozen q.hk 6
  simp only [List.getElem?_toArray, List.getElem?_cons_zero, List.getElem?_cons_succ] at d4 d5 d6
  have hsz : (st.length : Int) ≤ 990 := by omega
  replace q := Aside0.mk q
  replace h0 := Aside0.mk h0
  replace h1 := Aside0.mk h1
  go_enter Try.func58, Try.ntmps58
  go_wp2
  refine vm_gen _ (fun W => RfB w0 W ((w.heap.size, .cells #[.int .i64 4, .int .i64 3] 36) :: K) g ⟨cs, y :: st, wrap64 (at_ + 1), en, rt⟩ (wrap64 (us + 1))) h1.out ?_
  clear h1 d4 d5 d6 f5 f6
  intro W h1
  obtain ⟨v1, q1⟩ := h1
  have k1 := blk_cell (q1.kept _ List.mem_cons_self).1 1
  have k0 := blk_cell (q1.kept _ List.mem_cons_self).1 0
  have ck := blk_cell q1.hk 3
  have yk := blk_frozen q1.hk 3
  have h1 : Aside0 (RfB w0 W ((w.heap.size, .cells #[.int .i64 4, .int .i64 3] 36) :: K) g ⟨cs, y :: st, wrap64 (at_ + 1), en, rt⟩ (wrap64 (us + 1))) := ⟨⟨v1, q1⟩⟩
  simp only [List.getElem?_toArray, List.getElem?_cons_zero, List.getElem?_cons_succ] at k0 k1 ck
  clear q1
  go_region_held3 (fun W_ => W_.cell? ⟨g, 3, none⟩ = some (.int .i64 (rdOf 0 cs 3)) ∧ W_.cell? ⟨w.heap.size, 1, none⟩ = some (.int .i64 3)) (first | assumption | exact ⟨ck, k1⟩ | exact ⟨ck2, k2⟩) ((go_at_call 80; (with_reducible refine (rf_one (s := _) (t := []) 0 _ h1.out.drew (by first | omega | (simp only [List.length_cons]; omega) | simp) (by simp) rfl).mono ?_); rintro e W2 ⟨rfl, h2⟩; obtain ⟨v2, q2⟩ := h2; have k2 := blk_cell (q2.kept _ List.mem_cons_self).1 1; have ck2 := blk_cell q2.hk 3; simp only [List.getElem?_toArray, List.getElem?_cons_zero, List.getElem?_cons_succ] at k2 ck2; replace h2 : Aside0 (RfB w0 W2 _ _ _ _) := ⟨⟨v2, q2⟩⟩; clear q2))
  go_wp2
  go_end0
  exact ⟨rfl, h2.out.less (fun q hq => List.mem_cons_of_mem _ hq)⟩
set_option maxRecDepth 100000 in
set_option maxHeartbeats 2000000 in
theorem rdo_store3 {w0 w : World} {K : List (Nat × Obj)} {g : Nat} {cs st : List Int} {at_ us en rt : Int} (n kind arg y : Int) (hn : n = 3) (h : RfB w0 w K g ⟨cs, y :: st, at_, en, rt⟩ us) (hsm : st.length ≤ 985) :
    Calls Try.prog 58 #[.pointer (some ⟨g, 0, none⟩), .agg #[.int .i64 5, .int .i64 n], .int .i64 kind, .int .i64 arg] w fun e w' => e = .returned (.tuple #[]) ∧ RfB w0 w' K g ⟨cs.set 3 y, st, wrap64 (at_ + 1), en, rt⟩ (wrap64 (us + 1)) := by
  subst hn
  have h0 := h
  have h1 : RfB w0 (((w.setCell ⟨g, 6, none⟩ (.int .i64 (wrap64 (us + 1)))).setCell ⟨g, 5, none⟩ (.int .i64 (wrap64 (at_ + 1)))).alloc (.cells #[.int .i64 5, .int .i64 3] 36)) ((w.heap.size, (.cells #[.int .i64 5, .int .i64 3] 36)) :: K) g ⟨cs, y :: st, wrap64 (at_ + 1), en, rt⟩ (wrap64 (us + 1)) := ((h.setUs _).setAt _).moreAt _ _ (by rw [vm_ssz, vm_ssz])
  obtain ⟨vS, q⟩ := h
  simp only [List.reverse_cons] at q
  obtain ⟨b_, c, rfl, nb, nl, nc, z1⟩ := rf_top q
  rw [show (st.reverse).length = st.length from by simp] at nc z1
  have nb2 : g ≠ b_ := fun e => nb e.symm
  have nb3 : b_ ≠ w.heap.size := Nat.ne_of_lt nl
  have d4 := blk_cell q.hk 4
  simp only [show (st.reverse).length = st.length from by simp] at d4
  have hvl := blk_lt q.hk
  have n1 : g ≠ w.heap.size := Nat.ne_of_lt hvl
  have n2 : w.heap.size ≠ g := fun e => n1 e.symm
  have d5 := blk_cell q.hk 5
  have d6 := blk_cell q.hk 6
  have f5 := blk_frozen q.hk 5
  have f6 := blk_frozen q.hk 6
  simp only [List.getElem?_toArray, List.getElem?_cons_zero, List.getElem?_cons_succ] at d4 d5 d6
  have hsz : (st.length : Int) ≤ 990 := by omega
  replace q := Aside0.mk q
  replace h0 := Aside0.mk h0
  replace h1 := Aside0.mk h1
  go_enter Try.func58, Try.ntmps58
  go_wp2
  refine vm_gen _ (fun W => RfB w0 W ((w.heap.size, .cells #[.int .i64 5, .int .i64 3] 36) :: K) g ⟨cs, y :: st, wrap64 (at_ + 1), en, rt⟩ (wrap64 (us + 1))) h1.out ?_
  clear h1 d4 d5 d6 f5 f6
  intro W h1
  obtain ⟨v1, q1⟩ := h1
  have k1 := blk_cell (q1.kept _ List.mem_cons_self).1 1
  have k0 := blk_cell (q1.kept _ List.mem_cons_self).1 0
  have ck := blk_cell q1.hk 3
  have yk := blk_frozen q1.hk 3
  have q1' := q1
  simp only [List.reverse_cons] at q1'
  obtain ⟨b2, c2, rfl, mb, ml, mc, y1⟩ := rf_top q1'
  rw [show (st.reverse).length = st.length from by simp] at mc
  have d4 := blk_cell q1.hk 4
  simp only [show (st.reverse).length = st.length from by simp] at d4
  have f4 := blk_frozen q1.hk 4
  replace q1' := Aside0.mk q1'
  have h1 : Aside0 (RfB w0 W ((w.heap.size, .cells #[.int .i64 5, .int .i64 3] 36) :: K) g ⟨cs, y :: st, wrap64 (at_ + 1), en, rt⟩ (wrap64 (us + 1))) := ⟨⟨_, q1⟩⟩
  simp only [List.getElem?_toArray, List.getElem?_cons_zero, List.getElem?_cons_succ] at k0 k1 ck d4
  clear q1
  have hcut := fun (W : World) => rf_cut (b := b2) (n := st.length + 1) (m := st.length) (c := c2) (by omega) mc W
  go_region_held3 (fun W_ => W_.cell? ⟨w.heap.size, 1, none⟩ = some (.int .i64 3)) (first | assumption | exact k1 | exact rf_box (h1.out.drew.setCs3 y)) (fail)
  go_wp2
  go_end0
  exact ⟨rfl, RfB.less ⟨_, ((q1'.out.came (below_drew (Below.refl _ _))).setCs3 y).pop (m := st.length) (by simp) (by simp)⟩ (fun q hq => List.mem_cons_of_mem _ hq)⟩
set_option maxRecDepth 100000 in
set_option maxHeartbeats 2000000 in
theorem rdo_two {w0 w : World} {K : List (Nat × Obj)} {g : Nat} {cs st : List Int} {at_ us en rt : Int} (n kind arg op a b : Int) (v : Int) (hop : 8 ≤ op ∧ op ≤ 14) (hj : inquestref16_joined.f op a b = some (v, true)) (h : RfB w0 w K g ⟨cs, b :: a :: st, at_, en, rt⟩ us) (hsm : st.length ≤ 984) :
    Calls Try.prog 58 #[.pointer (some ⟨g, 0, none⟩), .agg #[.int .i64 op, .int .i64 n], .int .i64 kind, .int .i64 arg] w fun e w' => e = .returned (.tuple #[]) ∧ RfB w0 w' K g ⟨cs, v :: st, wrap64 (at_ + 1), en, rt⟩ (wrap64 (us + 1)) := by
  have h0 := h
  have h1 : RfB w0 (((w.setCell ⟨g, 6, none⟩ (.int .i64 (wrap64 (us + 1)))).setCell ⟨g, 5, none⟩ (.int .i64 (wrap64 (at_ + 1)))).alloc (.cells #[.int .i64 op, .int .i64 n] 36)) ((w.heap.size, (.cells #[.int .i64 op, .int .i64 n] 36)) :: K) g ⟨cs, b :: a :: st, wrap64 (at_ + 1), en, rt⟩ (wrap64 (us + 1)) := ((h.setUs _).setAt _).moreAt _ _ (by rw [vm_ssz, vm_ssz])
  obtain ⟨vS, q⟩ := h
  simp only [List.reverse_cons] at q
  obtain ⟨b_, c, rfl, nb, nl, nc, z1⟩ := rf_top q
  rw [show ((st.reverse ++ [a])).length = st.length + 1 from by simp] at nc z1
  have nb2 : g ≠ b_ := fun e => nb e.symm
  have nb3 : b_ ≠ w.heap.size := Nat.ne_of_lt nl
  have d4 := blk_cell q.hk 4
  simp only [show ((st.reverse ++ [a])).length = st.length + 1 from by simp] at d4
  have hvl := blk_lt q.hk
  have n1 : g ≠ w.heap.size := Nat.ne_of_lt hvl
  have n2 : w.heap.size ≠ g := fun e => n1 e.symm
  have d5 := blk_cell q.hk 5
  have d6 := blk_cell q.hk 6
  have f5 := blk_frozen q.hk 5
  have f6 := blk_frozen q.hk 6
  simp only [List.getElem?_toArray, List.getElem?_cons_zero, List.getElem?_cons_succ] at d4 d5 d6
  have hsz : (st.length : Int) ≤ 990 := by omega
  replace q := Aside0.mk q
  replace h0 := Aside0.mk h0
  replace h1 := Aside0.mk h1
  have k0_ : (op == 0) = false := beq_eq_false_iff_ne.mpr (by omega)
  have k1_ : (op == 1) = false := beq_eq_false_iff_ne.mpr (by omega)
  have k2_ : (op == 2) = false := beq_eq_false_iff_ne.mpr (by omega)
  have k3_ : (op == 3) = false := beq_eq_false_iff_ne.mpr (by omega)
  have k4_ : (op == 4) = false := beq_eq_false_iff_ne.mpr (by omega)
  have k5_ : (op == 5) = false := beq_eq_false_iff_ne.mpr (by omega)
  have k6_ : (op == 6) = false := beq_eq_false_iff_ne.mpr (by omega)
  have k7_ : (op == 7) = false := beq_eq_false_iff_ne.mpr (by omega)
  have k15_ : (op == 15) = false := beq_eq_false_iff_ne.mpr (by omega)
  have k16_ : (op == 16) = false := beq_eq_false_iff_ne.mpr (by omega)
  have k17_ : (op == 17) = false := beq_eq_false_iff_ne.mpr (by omega)
  have k18_ : (op == 18) = false := beq_eq_false_iff_ne.mpr (by omega)
  have k19_ : (op == 19) = false := beq_eq_false_iff_ne.mpr (by omega)
  clear hop
  replace hj := Aside0.mk hj
  have z2 := rf_at2 q.out
  rw [List.length_reverse] at z2
  go_enter Try.func58, Try.ntmps58
  go_wp2
  refine vm_gen _ (fun W => RfB w0 W ((w.heap.size, .cells #[.int .i64 op, .int .i64 n] 36) :: K) g ⟨cs, b :: a :: st, wrap64 (at_ + 1), en, rt⟩ (wrap64 (us + 1))) h1.out ?_
  clear h1 d4 d5 d6 f5 f6
  intro W h1
  obtain ⟨v1, q1⟩ := h1
  have k1 := blk_cell (q1.kept _ List.mem_cons_self).1 1
  have k0 := blk_cell (q1.kept _ List.mem_cons_self).1 0
  have ck := blk_cell q1.hk 4
  have yk := blk_frozen q1.hk 4
  simp only [show (b :: a :: st).reverse = st.reverse ++ [a] ++ [b] from by simp] at q1
  obtain ⟨b2, c2, rfl, mb, ml, mc, y1⟩ := rf_top q1
  have y2 := rf_at2 q1
  rw [List.length_reverse] at y2
  rw [show (st.reverse ++ [a]).length = st.length + 1 from by simp] at mc y1
  have h1 : Aside0 (RfB w0 W ((w.heap.size, .cells #[.int .i64 op, .int .i64 n] 36) :: K) g ⟨cs, b :: a :: st, wrap64 (at_ + 1), en, rt⟩ (wrap64 (us + 1))) := ⟨⟨_, by simp only [show (b :: a :: st).reverse = st.reverse ++ [a] ++ [b] from by simp]; exact q1⟩⟩
  simp only [List.getElem?_toArray, List.getElem?_cons_zero, List.getElem?_cons_succ] at k0 k1 ck
  simp only [show (st.reverse ++ [a]).length = st.length + 1 from by simp] at ck
  clear q1 z2
  have hwr : IntKind.i64.wrap ((st.length : Int)) = (st.length : Int) := IntWalk.i64_in _ ⟨by omega, by omega⟩
  have hwr2 : IntKind.i64.wrap ((st.length : Int) + 1 + 1 - 2) = (st.length : Int) := by rw [show (st.length : Int) + 1 + 1 - 2 = (st.length : Int) from by omega]; exact hwr
  have p0 : (0 : Int) ≤ (st.length : Int) := by omega
  have p1 : (st.length : Int) < (st.length : Int) + 1 + 1 := by omega
  have p2 : st.length < st.length + 1 + 1 := by omega
  set_option pp.deepTerms true in
  go_quiet ((go_at_call 82; exact Calls.quiet_of (rf_joined op a b v true _ hj.out)))
  clear hwr hwr2
  refine vm_gen _ (fun W => RfB w0 W ((w.heap.size, .cells #[.int .i64 op, .int .i64 n] 36) :: K) g ⟨cs, b :: a :: st, wrap64 (at_ + 1), en, rt⟩ (wrap64 (us + 1))) (h1.out.came (pw_below_drewN (Below.refl _ _) _)) ?_
  clear h1 y1 y2 k0 k1 ck yk p0 p1 p2
  intro W2 h2
  replace h2 := Aside0.mk h2
  go_wp2_with (first | (go_at_call 80; (with_reducible refine (rf_one (s := _) (t := [b, a]) 2 _ h2.out (by first | omega | (simp only [List.length_cons]; omega) | simp) (by simp) rfl).mono ?_); rintro e Wh3 ⟨rfl, h3⟩; replace h3 := Aside0.mk h3))
  go_end0
  exact ⟨rfl, h3.out.less (fun q hq => List.mem_cons_of_mem _ hq)⟩
set_option maxRecDepth 100000 in
set_option maxHeartbeats 2000000 in
theorem rdo_twono {w0 w : World} {K : List (Nat × Obj)} {g : Nat} {cs st : List Int} {at_ us en rt : Int} (n kind arg op a b : Int) (v : Int) (hop : 8 ≤ op ∧ op ≤ 14) (hj : inquestref16_joined.f op a b = some (v, false)) (h : RfB w0 w K g ⟨cs, b :: a :: st, at_, en, rt⟩ us) (hsm : st.length ≤ 984) :
    Calls Try.prog 58 #[.pointer (some ⟨g, 0, none⟩), .agg #[.int .i64 op, .int .i64 n], .int .i64 kind, .int .i64 arg] w fun e w' => e = .returned (.tuple #[]) ∧ RfB w0 w' K g ⟨cs, v :: st, wrap64 (at_ + 1), 2, rt⟩ (wrap64 (us + 1)) := by
  have h0 := h
  have h1 : RfB w0 (((w.setCell ⟨g, 6, none⟩ (.int .i64 (wrap64 (us + 1)))).setCell ⟨g, 5, none⟩ (.int .i64 (wrap64 (at_ + 1)))).alloc (.cells #[.int .i64 op, .int .i64 n] 36)) ((w.heap.size, (.cells #[.int .i64 op, .int .i64 n] 36)) :: K) g ⟨cs, b :: a :: st, wrap64 (at_ + 1), en, rt⟩ (wrap64 (us + 1)) := ((h.setUs _).setAt _).moreAt _ _ (by rw [vm_ssz, vm_ssz])
  obtain ⟨vS, q⟩ := h
  simp only [List.reverse_cons] at q
  obtain ⟨b_, c, rfl, nb, nl, nc, z1⟩ := rf_top q
  rw [show ((st.reverse ++ [a])).length = st.length + 1 from by simp] at nc z1
  have nb2 : g ≠ b_ := fun e => nb e.symm
  have nb3 : b_ ≠ w.heap.size := Nat.ne_of_lt nl
  have d4 := blk_cell q.hk 4
  simp only [show ((st.reverse ++ [a])).length = st.length + 1 from by simp] at d4
  have hvl := blk_lt q.hk
  have n1 : g ≠ w.heap.size := Nat.ne_of_lt hvl
  have n2 : w.heap.size ≠ g := fun e => n1 e.symm
  have d5 := blk_cell q.hk 5
  have d6 := blk_cell q.hk 6
  have f5 := blk_frozen q.hk 5
  have f6 := blk_frozen q.hk 6
  simp only [List.getElem?_toArray, List.getElem?_cons_zero, List.getElem?_cons_succ] at d4 d5 d6
  have hsz : (st.length : Int) ≤ 990 := by omega
  replace q := Aside0.mk q
  replace h0 := Aside0.mk h0
  replace h1 := Aside0.mk h1
  have k0_ : (op == 0) = false := beq_eq_false_iff_ne.mpr (by omega)
  have k1_ : (op == 1) = false := beq_eq_false_iff_ne.mpr (by omega)
  have k2_ : (op == 2) = false := beq_eq_false_iff_ne.mpr (by omega)
  have k3_ : (op == 3) = false := beq_eq_false_iff_ne.mpr (by omega)
  have k4_ : (op == 4) = false := beq_eq_false_iff_ne.mpr (by omega)
  have k5_ : (op == 5) = false := beq_eq_false_iff_ne.mpr (by omega)
  have k6_ : (op == 6) = false := beq_eq_false_iff_ne.mpr (by omega)
  have k7_ : (op == 7) = false := beq_eq_false_iff_ne.mpr (by omega)
  have k15_ : (op == 15) = false := beq_eq_false_iff_ne.mpr (by omega)
  have k16_ : (op == 16) = false := beq_eq_false_iff_ne.mpr (by omega)
  have k17_ : (op == 17) = false := beq_eq_false_iff_ne.mpr (by omega)
  have k18_ : (op == 18) = false := beq_eq_false_iff_ne.mpr (by omega)
  have k19_ : (op == 19) = false := beq_eq_false_iff_ne.mpr (by omega)
  clear hop
  replace hj := Aside0.mk hj
  have z2 := rf_at2 q.out
  rw [List.length_reverse] at z2
  go_enter Try.func58, Try.ntmps58
  go_wp2
  refine vm_gen _ (fun W => RfB w0 W ((w.heap.size, .cells #[.int .i64 op, .int .i64 n] 36) :: K) g ⟨cs, b :: a :: st, wrap64 (at_ + 1), en, rt⟩ (wrap64 (us + 1))) h1.out ?_
  clear h1 d4 d5 d6 f5 f6
  intro W h1
  obtain ⟨v1, q1⟩ := h1
  have k1 := blk_cell (q1.kept _ List.mem_cons_self).1 1
  have k0 := blk_cell (q1.kept _ List.mem_cons_self).1 0
  have ck := blk_cell q1.hk 4
  have yk := blk_frozen q1.hk 4
  simp only [show (b :: a :: st).reverse = st.reverse ++ [a] ++ [b] from by simp] at q1
  obtain ⟨b2, c2, rfl, mb, ml, mc, y1⟩ := rf_top q1
  have y2 := rf_at2 q1
  rw [List.length_reverse] at y2
  rw [show (st.reverse ++ [a]).length = st.length + 1 from by simp] at mc y1
  have h1 : Aside0 (RfB w0 W ((w.heap.size, .cells #[.int .i64 op, .int .i64 n] 36) :: K) g ⟨cs, b :: a :: st, wrap64 (at_ + 1), en, rt⟩ (wrap64 (us + 1))) := ⟨⟨_, by simp only [show (b :: a :: st).reverse = st.reverse ++ [a] ++ [b] from by simp]; exact q1⟩⟩
  simp only [List.getElem?_toArray, List.getElem?_cons_zero, List.getElem?_cons_succ] at k0 k1 ck
  simp only [show (st.reverse ++ [a]).length = st.length + 1 from by simp] at ck
  clear q1 z2
  have hwr : IntKind.i64.wrap ((st.length : Int)) = (st.length : Int) := IntWalk.i64_in _ ⟨by omega, by omega⟩
  have hwr2 : IntKind.i64.wrap ((st.length : Int) + 1 + 1 - 2) = (st.length : Int) := by rw [show (st.length : Int) + 1 + 1 - 2 = (st.length : Int) from by omega]; exact hwr
  have p0 : (0 : Int) ≤ (st.length : Int) := by omega
  have p1 : (st.length : Int) < (st.length : Int) + 1 + 1 := by omega
  have p2 : st.length < st.length + 1 + 1 := by omega
  set_option pp.deepTerms true in
  go_quiet ((go_at_call 82; exact Calls.quiet_of (rf_joined op a b v false _ hj.out)))
  clear hwr hwr2
  refine vm_gen _ (fun W => RfB w0 W ((w.heap.size, .cells #[.int .i64 op, .int .i64 n] 36) :: K) g ⟨cs, b :: a :: st, wrap64 (at_ + 1), en, rt⟩ (wrap64 (us + 1))) (h1.out.came (pw_below_drewN (Below.refl _ _) _)) ?_
  clear h1 y1 y2 k0 k1 ck yk p0 p1 p2
  intro W2 h2
  replace h2 := Aside0.mk h2
  go_wp2_with (first | (go_at_call 80; (with_reducible refine (rf_one (s := _) (t := [b, a]) 2 _ h2.out (by first | omega | (simp only [List.length_cons]; omega) | simp) (by simp) rfl).mono ?_); rintro e Wh3 ⟨rfl, h3⟩; replace h3 := Aside0.mk h3; obtain ⟨v3, q3⟩ := h3.out; have g8 := blk_cell q3.hk 8; have e8 := blk_frozen q3.hk 8; simp only [List.getElem?_toArray, List.getElem?_cons_zero, List.getElem?_cons_succ] at g8; clear q3))
  go_end0
  exact ⟨rfl, (h3.out.setOver _).less (fun q hq => List.mem_cons_of_mem _ hq)⟩
end Go.Proofs.Ytddkoimaghcbeaa.PVmSteps
