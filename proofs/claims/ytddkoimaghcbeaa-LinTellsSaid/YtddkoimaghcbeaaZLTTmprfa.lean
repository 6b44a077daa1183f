/- A part of what the law LinTells stands on, only as far as it is needed (the words and walks were printed or written in this seat; this text was cut by a program of this session, wip/bin/trim.py). No condition beyond what each theorem says. -/
import Derived.StillTailTactics
import Derived.IntWalk
import Derived.Test.YtddkoimaghcbeaaZLTPVmStepsx0
import Derived.Test.YtddkoimaghcbeaaZLTPVmStepsx2
import Derived.Test.YtddkoimaghcbeaaZLTPVmStepsx3
import Derived.Test.YtddkoimaghcbeaaZLTPVmStepsx4
import Derived.Test.YtddkoimaghcbeaaZLTPVmStepsx5
import Derived.Test.YtddkoimaghcbeaaZLTPVmStepsx6
import Derived.Test.YtddkoimaghcbeaaZLTTmpvmq
namespace Go.Proofs.Ytddkoimaghcbeaa.PVmSteps
open Go.RowKit Go.Proofs.YtddkoimaghcbeaaW.PrintWords Go.Proofs.YtddkoimaghcbeaaW.PrintLast Go.Proofs.YtddkoimaghcbeaaW.PrintMore
set_option linter.unusedVariables false
set_option linter.unusedSimpArgs false
structure RfM (w0 W : World) (K : List (Nat × Obj)) (g : Nat) (cs : List Int) (stk : List Int) (at_ us en rt : Int) (vS : Value) : Prop where
  hB : Below w0.heap.size w0 W
  bg : w0.heap.size ≤ g
  c4 : cs.length = 4
  hk : W.heap[g]? = some (.cells #[.int .i64 (rdOf 0 cs 0), .int .i64 (rdOf 0 cs 1), .int .i64 (rdOf 0 cs 2), .int .i64 (rdOf 0 cs 3), vS, .int .i64 at_, .int .i64 us, .int .i64 0, .int .i64 en, .int .i64 rt] 105 (0, 0))
  hS : (Kd.int .i64).R 2 W w0.heap.size (VmP K g) vS stk
  kept : ∀ q ∈ K, W.heap[q.1]? = some q.2 ∧ q.1 ≠ g
theorem RfM.came {w0 W W' : World} {K : List (Nat × Obj)} {g : Nat} {cs stk : List Int} {at_ us en rt : Int} {vS : Value} (h : RfM w0 W K g cs stk at_ us en rt vS) (hb : Below W.heap.size W W') : RfM w0 W' K g cs stk at_ us en rt vS :=
  ⟨below_step h.hB hb, h.bg, h.c4, blk_below h.hk hb, Kd.R_below h.hS hb, fun q hq => ⟨blk_below (h.kept q hq).1 hb, (h.kept q hq).2⟩⟩
/-- Another row is the stack. -/
theorem RfM.setS {w0 W : World} {K : List (Nat × Obj)} {g : Nat} {cs stk stk' : List Int} {at_ us en rt : Int} {vS vS' : Value} (h : RfM w0 W K g cs stk at_ us en rt vS) (hr : (Kd.int .i64).R 2 W w0.heap.size (VmP K g) vS' stk') : RfM w0 (W.setCell ⟨g, 4, none⟩ vS') K g cs stk' at_ us en rt vS' :=
  ⟨below_set h.hB h.bg, h.bg, h.c4, blk_put h.hk 4 _ (by simp), Kd.R_far hr (fun k hk => hk.1) _, vm_kset h.kept _ _⟩
theorem RfM.setAt {w0 W : World} {K : List (Nat × Obj)} {g : Nat} {cs stk : List Int} {at_ us en rt : Int} {vS : Value} (h : RfM w0 W K g cs stk at_ us en rt vS) (a : Int) : RfM w0 (W.setCell ⟨g, 5, none⟩ (.int .i64 a)) K g cs stk a us en rt vS :=
  ⟨below_set h.hB h.bg, h.bg, h.c4, blk_put h.hk 5 _ (by simp), Kd.R_far h.hS (fun k hk => hk.1) _, vm_kset h.kept _ _⟩
theorem RfM.setUs {w0 W : World} {K : List (Nat × Obj)} {g : Nat} {cs stk : List Int} {at_ us en rt : Int} {vS : Value} (h : RfM w0 W K g cs stk at_ us en rt vS) (a : Int) : RfM w0 (W.setCell ⟨g, 6, none⟩ (.int .i64 a)) K g cs stk at_ a en rt vS :=
  ⟨below_set h.hB h.bg, h.bg, h.c4, blk_put h.hk 6 _ (by simp), Kd.R_far h.hS (fun k hk => hk.1) _, vm_kset h.kept _ _⟩
theorem RfM.setOver {w0 W : World} {K : List (Nat × Obj)} {g : Nat} {cs stk : List Int} {at_ us en rt : Int} {vS : Value} (h : RfM w0 W K g cs stk at_ us en rt vS) (a : Int) : RfM w0 (W.setCell ⟨g, 8, none⟩ (.int .i64 a)) K g cs stk at_ us a rt vS :=
  ⟨below_set h.hB h.bg, h.bg, h.c4, blk_put h.hk 8 _ (by simp), Kd.R_far h.hS (fun k hk => hk.1) _, vm_kset h.kept _ _⟩
theorem RfM.setRet {w0 W : World} {K : List (Nat × Obj)} {g : Nat} {cs stk : List Int} {at_ us en rt : Int} {vS : Value} (h : RfM w0 W K g cs stk at_ us en rt vS) (a : Int) : RfM w0 (W.setCell ⟨g, 9, none⟩ (.int .i64 a)) K g cs stk at_ us en a vS :=
  ⟨below_set h.hB h.bg, h.bg, h.c4, blk_put h.hk 9 _ (by simp), Kd.R_far h.hS (fun k hk => hk.1) _, vm_kset h.kept _ _⟩
def RfB (w0 W : World) (K : List (Nat × Obj)) (g : Nat) (r : VR) (us : Int) : Prop := ∃ vS, RfM w0 W K g r.cs r.st.reverse r.at_ us r.en r.rt vS
theorem RfB.came {w0 W W' : World} {K : List (Nat × Obj)} {g : Nat} {r : VR} {us : Int} (h : RfB w0 W K g r us) (hb : Below W.heap.size W W') : RfB w0 W' K g r us := let ⟨v, h⟩ := h; ⟨v, h.came hb⟩
theorem RfB.drew {w0 W : World} {K : List (Nat × Obj)} {g : Nat} {r : VR} {us : Int} (h : RfB w0 W K g r us) : RfB w0 W.drew K g r us := h.came (below_drew (Below.refl _ _))
theorem RfB.setAt {w0 W : World} {K : List (Nat × Obj)} {g : Nat} {r : VR} {us : Int} (h : RfB w0 W K g r us) (a : Int) : RfB w0 (W.setCell ⟨g, 5, none⟩ (.int .i64 a)) K g { r with at_ := a } us := let ⟨v, h⟩ := h; ⟨v, h.setAt a⟩
theorem RfB.setUs {w0 W : World} {K : List (Nat × Obj)} {g : Nat} {r : VR} {us : Int} (h : RfB w0 W K g r us) (a : Int) : RfB w0 (W.setCell ⟨g, 6, none⟩ (.int .i64 a)) K g r a := let ⟨v, h⟩ := h; ⟨v, h.setUs a⟩
theorem RfB.setOver {w0 W : World} {K : List (Nat × Obj)} {g : Nat} {r : VR} {us : Int} (h : RfB w0 W K g r us) (a : Int) : RfB w0 (W.setCell ⟨g, 8, none⟩ (.int .i64 a)) K g { r with en := a } us := let ⟨v, h⟩ := h; ⟨v, h.setOver a⟩
theorem RfB.setRet {w0 W : World} {K : List (Nat × Obj)} {g : Nat} {r : VR} {us : Int} (h : RfB w0 W K g r us) (a : Int) : RfB w0 (W.setCell ⟨g, 9, none⟩ (.int .i64 a)) K g { r with rt := a } us := let ⟨v, h⟩ := h; ⟨v, h.setRet a⟩
theorem RfB.less {w0 W : World} {K K' : List (Nat × Obj)} {g : Nat} {r : VR} {us : Int} (h : RfB w0 W K g r us) (hk : ∀ q ∈ K', q ∈ K) : RfB w0 W K' g r us :=
  let ⟨v, h⟩ := h; ⟨v, h.hB, h.bg, h.c4, h.hk, ⟨fun k e => ⟨(h.hS.1 k e).1, fun q hq => (h.hS.1 k e).2 q (hk q hq)⟩, h.hS.2⟩, fun q hq => h.kept q (hk q hq)⟩
theorem RfB.more {w0 W : World} {K : List (Nat × Obj)} {g : Nat} {r : VR} {us : Int} (h : RfB w0 W K g r us) (o : Obj) : RfB w0 (W.alloc o) ((W.heap.size, o) :: K) g r us :=
  let ⟨v, h⟩ := h
  let h2 := h.came (below_alloc (Below.refl _ _) o)
  ⟨v, h2.hB, h2.bg, h2.c4, h2.hk, ⟨fun k e => ⟨(h2.hS.1 k e).1, fun q hq => by
    rcases List.mem_cons.1 hq with rfl | hq
    · have := Kd.R_lt h.hS k e; simp only; omega
    · exact (h2.hS.1 k e).2 q hq⟩, h2.hS.2⟩, fun q hq => by
    rcases List.mem_cons.1 hq with rfl | hq
    · exact ⟨blk_new _ _, by have := blk_lt h.hk; simp only; omega⟩
    · exact h2.kept q hq⟩
theorem RfB.moreAt {w0 W : World} {K : List (Nat × Obj)} {g : Nat} {r : VR} {us : Int} (h : RfB w0 W K g r us) (o : Obj) (n : Nat) (hn : W.heap.size = n) : RfB w0 (W.alloc o) ((n, o) :: K) g r us := by subst hn; exact h.more o
theorem rf_box {w0 W : World} {K : List (Nat × Obj)} {g bx T : Nat} {a b : Value} {r : VR} {us : Int} (h : RfB w0 W ((bx, .cells #[a, b] T) :: K) g r us) : W.cell? ⟨bx, 1, none⟩ = some b := by
  obtain ⟨v, h⟩ := h
  exact blk_cell (h.kept _ List.mem_cons_self).1 1
theorem RfM.setCs0 {w0 W : World} {K : List (Nat × Obj)} {g : Nat} {cs stk : List Int} {at_ us en rt : Int} {vS : Value} (h : RfM w0 W K g cs stk at_ us en rt vS) (x : Int) : RfM w0 (W.setCell ⟨g, 0, none⟩ (.int .i64 x)) K g (cs.set 0 x) stk at_ us en rt vS := by
  obtain ⟨a, b, c, d, rfl⟩ : ∃ a b c d, cs = [a, b, c, d] := by
    have := h.c4
    match cs, this with
    | [a, b, c, d], _ => exact ⟨a, b, c, d, rfl⟩
  exact ⟨below_set h.hB h.bg, h.bg, rfl, blk_put h.hk 0 _ (by simp [rdOf]), Kd.R_far h.hS (fun k hk => hk.1) _, vm_kset h.kept _ _⟩
theorem RfB.setCs0 {w0 W : World} {K : List (Nat × Obj)} {g : Nat} {r : VR} {us : Int} (h : RfB w0 W K g r us) (x : Int) : RfB w0 (W.setCell ⟨g, 0, none⟩ (.int .i64 x)) K g { r with cs := r.cs.set 0 x } us := let ⟨v, h⟩ := h; ⟨v, h.setCs0 x⟩
theorem RfM.setCs1 {w0 W : World} {K : List (Nat × Obj)} {g : Nat} {cs stk : List Int} {at_ us en rt : Int} {vS : Value} (h : RfM w0 W K g cs stk at_ us en rt vS) (x : Int) : RfM w0 (W.setCell ⟨g, 1, none⟩ (.int .i64 x)) K g (cs.set 1 x) stk at_ us en rt vS := by
  obtain ⟨a, b, c, d, rfl⟩ : ∃ a b c d, cs = [a, b, c, d] := by
    have := h.c4
    match cs, this with
    | [a, b, c, d], _ => exact ⟨a, b, c, d, rfl⟩
  exact ⟨below_set h.hB h.bg, h.bg, rfl, blk_put h.hk 1 _ (by simp [rdOf]), Kd.R_far h.hS (fun k hk => hk.1) _, vm_kset h.kept _ _⟩
theorem RfB.setCs1 {w0 W : World} {K : List (Nat × Obj)} {g : Nat} {r : VR} {us : Int} (h : RfB w0 W K g r us) (x : Int) : RfB w0 (W.setCell ⟨g, 1, none⟩ (.int .i64 x)) K g { r with cs := r.cs.set 1 x } us := let ⟨v, h⟩ := h; ⟨v, h.setCs1 x⟩
theorem RfM.setCs2 {w0 W : World} {K : List (Nat × Obj)} {g : Nat} {cs stk : List Int} {at_ us en rt : Int} {vS : Value} (h : RfM w0 W K g cs stk at_ us en rt vS) (x : Int) : RfM w0 (W.setCell ⟨g, 2, none⟩ (.int .i64 x)) K g (cs.set 2 x) stk at_ us en rt vS := by
  obtain ⟨a, b, c, d, rfl⟩ : ∃ a b c d, cs = [a, b, c, d] := by
    have := h.c4
    match cs, this with
    | [a, b, c, d], _ => exact ⟨a, b, c, d, rfl⟩
  exact ⟨below_set h.hB h.bg, h.bg, rfl, blk_put h.hk 2 _ (by simp [rdOf]), Kd.R_far h.hS (fun k hk => hk.1) _, vm_kset h.kept _ _⟩
theorem RfB.setCs2 {w0 W : World} {K : List (Nat × Obj)} {g : Nat} {r : VR} {us : Int} (h : RfB w0 W K g r us) (x : Int) : RfB w0 (W.setCell ⟨g, 2, none⟩ (.int .i64 x)) K g { r with cs := r.cs.set 2 x } us := let ⟨v, h⟩ := h; ⟨v, h.setCs2 x⟩
theorem RfM.setCs3 {w0 W : World} {K : List (Nat × Obj)} {g : Nat} {cs stk : List Int} {at_ us en rt : Int} {vS : Value} (h : RfM w0 W K g cs stk at_ us en rt vS) (x : Int) : RfM w0 (W.setCell ⟨g, 3, none⟩ (.int .i64 x)) K g (cs.set 3 x) stk at_ us en rt vS := by
  obtain ⟨a, b, c, d, rfl⟩ : ∃ a b c d, cs = [a, b, c, d] := by
    have := h.c4
    match cs, this with
    | [a, b, c, d], _ => exact ⟨a, b, c, d, rfl⟩
  exact ⟨below_set h.hB h.bg, h.bg, rfl, blk_put h.hk 3 _ (by simp [rdOf]), Kd.R_far h.hS (fun k hk => hk.1) _, vm_kset h.kept _ _⟩
theorem RfB.setCs3 {w0 W : World} {K : List (Nat × Obj)} {g : Nat} {r : VR} {us : Int} (h : RfB w0 W K g r us) (x : Int) : RfB w0 (W.setCell ⟨g, 3, none⟩ (.int .i64 x)) K g { r with cs := r.cs.set 3 x } us := let ⟨v, h⟩ := h; ⟨v, h.setCs3 x⟩
/-- One of the row's own: a number on the stack behind so many were taken off. -/
theorem rf_lit (w : World) (x : Int) : (Instr.buildSlice 99 1 #[(0, .int .i64 x)]).run Try.prog w = .ok (.slice (some ⟨w.heap.size, 0, none⟩) 1 1) (w.alloc (.cells #[.int .i64 x] 2)) := by kernel_rfl
set_option maxRecDepth 100000 in
set_option maxHeartbeats 1000000 in
theorem rf_one {w0 w : World} {K : List (Nat × Obj)} {g : Nat} {cs s t : List Int} {at_ us en rt : Int} (off x : Int) (h : RfB w0 w K g ⟨cs, t ++ s, at_, en, rt⟩ us) (hsm : s.length ≤ 990) (ht : t.length ≤ 2) (hoff : off = t.length) :
    Calls Try.prog 80 #[.pointer (some ⟨g, 0, none⟩), .int .i64 off, .int .i64 x] w fun e w' => e = .returned (.tuple #[]) ∧ RfB w0 w' K g ⟨cs, x :: s, at_, en, rt⟩ us := by
  obtain ⟨vS, q⟩ := h
  simp only [List.reverse_append] at q
  obtain ⟨A, c, rfl⟩ := Kd.R_slice q.hS
  obtain ⟨_, hcc, hC⟩ := Kd.R_reads' q.hS
  have d4 := blk_cell q.hk 4
  have f4 := blk_frozen q.hk 4
  simp only [List.getElem?_toArray, List.getElem?_cons_zero, List.getElem?_cons_succ] at d4
  obtain ⟨n, hn⟩ : ∃ n, n = (s.reverse ++ t.reverse).length := ⟨_, rfl⟩
  have hn2 : n = s.length + t.length := by rw [hn]; simp
  have hgl := blk_lt q.hk
  have hC2 := Kd.C_take (m := s.length) hC (by simp)
  rw [List.take_left' (by simp)] at hC2
  rw [← hn] at d4 hcc
  have b0 : (0 : Int) ≤ off := by omega
  have b1 : off ≤ 2 := by omega
  have b2 : off ≤ (n : Int) := by omega
  have b3 : (n : Int) ≤ 992 := by omega
  have b4 : (n : Int) - off = (s.length : Int) := by omega
  obtain ⟨i0, hi0, _, _, _⟩ := info_parts vp_info2
  have hcut := cut_to (P := Try.prog) 99 2 .i64 Try.underlying99 hi0 A n c (s.length : Int) (by omega) (by omega) hcc
  simp only [Int.toNat_natCast] at hcut
  have hC3 := Aside0.mk hC2
  have q' := Aside0.mk q
  replace hn := Aside0.mk hn
  replace hn2 := Aside0.mk hn2
  clear hC hC2 q hi0 hoff
  have hwr : IntKind.i64.wrap (s.length : Int) = (s.length : Int) := IntWalk.i64_in _ ⟨by omega, by omega⟩
  have hfr : Aside0 (∀ k, w.heap.size ≤ k → VmP K g k) := ⟨fun k hk => ⟨fun e => by omega, fun qq hq e => by have := blk_lt (q'.out.kept qq hq).1; omega⟩⟩
  have hC4 : Aside0 ((Kd.int .i64).C w A s.length s.reverse) := ⟨by have := hC3.out; rwa [List.length_reverse] at this⟩
  have hlit := rf_lit
  go_enter Try.func80, Try.ntmps80
  go_wp2
  go_still_tail 13, (by kernel_rfl)
  clear hwr hcut d4 f4
  go_wp2_with (first | ((with_reducible refine gate_builtin (b := .append) (xs := #[.tmp 7, .tmp 19]) rfl ?_); at_builtin; refine Kd.R_append_rows (Kd.int .i64) (w0 := w0) w0.heap.size rfl (.tmp 7) (.tmp 19) 99 2 (.int .i64 0) 8 rfl vp_u60 vp_info2 rfl (by decide) (by omega) (.slice none 0 0) ([] : List Int) s.reverse A _ _ (VmP K g) (fun _ => False) rfl rfl (Kd.R_nil _ _ _ _ _) (Kd.C_drew hC4.out) (fun _ _ h => h) (fun _ h => h.elim) hfr.out q'.out.hB.drew (by have := q'.out.hB.size; exact this) (by simp only [List.length_nil]; omega) ?_; intro v1 w1 ho hb hg hat; rw [List.nil_append] at ho; have hbw : Aside0 (Below w.heap.size w w1) := ⟨⟨hg.os, hg.tape, hg.output, hg.size, fun k hk => hg.block k hk (by simp [Value.ownBlock])⟩⟩; obtain ⟨A1, c1, rfl⟩ := Kd.R_slice ho; rw [List.length_reverse] at ho; replace ho := Aside0.mk ho; replace hb := Aside0.mk hb; clear hg hat) | ((with_reducible refine gate_builtin (b := .append) (xs := #[.tmp 22, .tmp 24]) rfl ?_); refine Kd.R_append (Kd.int .i64) (w0 := w0) w0.heap.size rfl (.tmp 22) (.tmp 24) 99 2 (.int .i64 0) 8 rfl vp_u60 vp_info2 rfl (by decide) (by omega) (.slice A1 s.length c1) s.reverse x [.int .i64 x] (VmP K g) (fun _ => False) rfl rfl rfl (fun _ hk => hk.elim) (fun k hk => hfr.out k (Nat.le_trans hbw.out.size hk)) ho.out hb.out hb.out.size (by rw [List.length_reverse]; omega) ?_; intro v2 w2 ho2 hb2 hg2 hat; have hk2 := blk_grown (blk_below q'.out.hk hbw.out) hg2 (fun e => (ho.out.1 g e.symm).1 rfl); have hkp : Aside0 (∀ q ∈ K, w2.heap[q.1]? = some q.2 ∧ q.1 ≠ g) := ⟨fun q hq => ⟨blk_grown (blk_below (q'.out.kept q hq).1 hbw.out) hg2 (fun e => (ho.out.1 q.1 e.symm).2 q hq rfl), (q'.out.kept q hq).2⟩⟩; have e4 := blk_frozen hk2 4; have e5 := blk_cell hk2 4; simp only [List.getElem?_toArray, List.getElem?_cons_zero, List.getElem?_cons_succ] at e5; obtain ⟨A2, c2, rfl⟩ := Kd.R_slice ho2; replace ho2 := Aside0.mk ho2; replace hb2 := Aside0.mk hb2; replace hk2 := Aside0.mk hk2; clear hg2 hat))
  go_end0
  exact ⟨rfl, (.slice A2 (s.reverse ++ [x]).length c2), below_set hb2.out q'.out.bg, q'.out.bg, q'.out.c4, blk_put hk2.out 4 _ (by simp), Kd.R_far (by rw [List.reverse_cons]; exact ho2.out) (fun k hk => hk.1) _, vm_kset hkp.out 4 _⟩
end Go.Proofs.Ytddkoimaghcbeaa.PVmSteps
