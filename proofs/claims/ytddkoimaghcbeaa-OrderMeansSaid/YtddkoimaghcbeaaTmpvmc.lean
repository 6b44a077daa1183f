/- A part of the proofs about layers 16 to 18 (vm, order, lin) and their references: contracts and plain lemmas that the laws stand on. No condition beyond what each theorem says. -/
import Derived.Test.YtddkoimaghcbeaaPVmStepsx1
import Derived.Test.YtddkoimaghcbeaaPVmStepsx2
import Derived.Test.YtddkoimaghcbeaaPVmStepsx3
import Derived.Test.YtddkoimaghcbeaaPVmStepsx4
import Derived.Test.YtddkoimaghcbeaaPVmStepsx5
import Derived.Test.YtddkoimaghcbeaaPVmStepsx6
import Derived.Test.YtddkoimaghcbeaaTmpvmb
namespace Go.Proofs.Ytddkoimaghcbeaa.PVmSteps
open Go.RowKit Go.Proofs.YtddkoimaghcbeaaW.PrintWords Go.Proofs.YtddkoimaghcbeaaW.PrintLast Go.Proofs.YtddkoimaghcbeaaW.PrintMore
set_option linter.unusedVariables false
set_option linter.unusedSimpArgs false
/-- A machine's step under way: cells, stack (the top first), place, end, answer. -/
structure VR where
  cs : List Int
  st : List Int
  at_ : Int
  en : Int
  rt : Int
def VrB (w0 W : World) (K : List (Nat × Obj)) (g : Nat) (r : VR) : Prop := ∃ vS, VmB w0 W K g r.cs r.st.reverse r.at_ r.en r.rt vS
theorem VrB.came {w0 W W' : World} {K : List (Nat × Obj)} {g : Nat} {r : VR} (h : VrB w0 W K g r) (hb : Below W.heap.size W W') : VrB w0 W' K g r := let ⟨v, h⟩ := h; ⟨v, h.came hb⟩
theorem VrB.setAt {w0 W : World} {K : List (Nat × Obj)} {g : Nat} {r : VR} (h : VrB w0 W K g r) (a : Int) : VrB w0 (W.setCell ⟨g, 5, none⟩ (.int .i64 a)) K g { r with at_ := a } := let ⟨v, h⟩ := h; ⟨v, h.setAt a⟩
theorem VrB.setEnd {w0 W : World} {K : List (Nat × Obj)} {g : Nat} {r : VR} (h : VrB w0 W K g r) (a : Int) : VrB w0 (W.setCell ⟨g, 6, none⟩ (.int .i64 a)) K g { r with en := a } := let ⟨v, h⟩ := h; ⟨v, h.setEnd a⟩
theorem VrB.setRet {w0 W : World} {K : List (Nat × Obj)} {g : Nat} {r : VR} (h : VrB w0 W K g r) (a : Int) : VrB w0 (W.setCell ⟨g, 7, none⟩ (.int .i64 a)) K g { r with rt := a } := let ⟨v, h⟩ := h; ⟨v, h.setRet a⟩
/-- Blocks that stay: fewer of them. -/
theorem VrB.less {w0 W : World} {K K' : List (Nat × Obj)} {g : Nat} {r : VR} (h : VrB w0 W K g r) (hk : ∀ q ∈ K', q ∈ K) : VrB w0 W K' g r :=
  let ⟨v, h⟩ := h; ⟨v, h.hB, h.bg, h.c4, h.hk, ⟨fun k e => ⟨(h.hS.1 k e).1, fun q hq => (h.hS.1 k e).2 q (hk q hq)⟩, h.hS.2⟩, fun q hq => h.kept q (hk q hq)⟩
/-- A new block. -/
theorem VrB.more {w0 W : World} {K : List (Nat × Obj)} {g : Nat} {r : VR} (h : VrB w0 W K g r) (o : Obj) : VrB w0 (W.alloc o) ((W.heap.size, o) :: K) g r :=
  let ⟨v, h⟩ := h
  let h2 := h.came (below_alloc (Below.refl _ _) o)
  ⟨v, h2.hB, h2.bg, h2.c4, h2.hk, ⟨fun k e => ⟨(h2.hS.1 k e).1, fun q hq => by
    rcases List.mem_cons.1 hq with rfl | hq
    · have := Kd.R_lt h.hS k e; simp only; omega
    · exact (h2.hS.1 k e).2 q hq⟩, h2.hS.2⟩, fun q hq => by
    rcases List.mem_cons.1 hq with rfl | hq
    · exact ⟨blk_new _ _, by have := blk_lt h.hk; simp only; omega⟩
    · exact h2.kept q hq⟩
theorem vm_ssz (W : World) (p : Addr) (v : Value) : (W.setCell p v).heap.size = W.heap.size := by simp [World.setCell]
theorem VrB.moreAt {w0 W : World} {K : List (Nat × Obj)} {g : Nat} {r : VR} (h : VrB w0 W K g r) (o : Obj) (n : Nat) (hn : W.heap.size = n) : VrB w0 (W.alloc o) ((n, o) :: K) g r := by subst hn; exact h.more o
theorem VrB.drew {w0 W : World} {K : List (Nat × Obj)} {g : Nat} {r : VR} (h : VrB w0 W K g r) : VrB w0 W.drew K g r := h.came (below_drew (Below.refl _ _))
theorem VrB.setCs0 {w0 W : World} {K : List (Nat × Obj)} {g : Nat} {r : VR} (h : VrB w0 W K g r) (x : Int) : VrB w0 (W.setCell ⟨g, 0, none⟩ (.int .i64 x)) K g { r with cs := r.cs.set 0 x } := by
  obtain ⟨v, h⟩ := h
  obtain ⟨cs, st, at_, en, rt⟩ := r
  obtain ⟨a, b, c, d, rfl⟩ : ∃ a b c d, cs = [a, b, c, d] := by
    have := h.c4
    match cs, this with
    | [a, b, c, d], _ => exact ⟨a, b, c, d, rfl⟩
  exact ⟨v, below_set h.hB h.bg, h.bg, rfl, blk_put h.hk 0 _ (by simp [rdOf]), Kd.R_far h.hS (fun k hk => hk.1) _, vm_kset h.kept _ _⟩
theorem VrB.setCs1 {w0 W : World} {K : List (Nat × Obj)} {g : Nat} {r : VR} (h : VrB w0 W K g r) (x : Int) : VrB w0 (W.setCell ⟨g, 1, none⟩ (.int .i64 x)) K g { r with cs := r.cs.set 1 x } := by
  obtain ⟨v, h⟩ := h
  obtain ⟨cs, st, at_, en, rt⟩ := r
  obtain ⟨a, b, c, d, rfl⟩ : ∃ a b c d, cs = [a, b, c, d] := by
    have := h.c4
    match cs, this with
    | [a, b, c, d], _ => exact ⟨a, b, c, d, rfl⟩
  exact ⟨v, below_set h.hB h.bg, h.bg, rfl, blk_put h.hk 1 _ (by simp [rdOf]), Kd.R_far h.hS (fun k hk => hk.1) _, vm_kset h.kept _ _⟩
theorem VrB.setCs2 {w0 W : World} {K : List (Nat × Obj)} {g : Nat} {r : VR} (h : VrB w0 W K g r) (x : Int) : VrB w0 (W.setCell ⟨g, 2, none⟩ (.int .i64 x)) K g { r with cs := r.cs.set 2 x } := by
  obtain ⟨v, h⟩ := h
  obtain ⟨cs, st, at_, en, rt⟩ := r
  obtain ⟨a, b, c, d, rfl⟩ : ∃ a b c d, cs = [a, b, c, d] := by
    have := h.c4
    match cs, this with
    | [a, b, c, d], _ => exact ⟨a, b, c, d, rfl⟩
  exact ⟨v, below_set h.hB h.bg, h.bg, rfl, blk_put h.hk 2 _ (by simp [rdOf]), Kd.R_far h.hS (fun k hk => hk.1) _, vm_kset h.kept _ _⟩
theorem VrB.setCs3 {w0 W : World} {K : List (Nat × Obj)} {g : Nat} {r : VR} (h : VrB w0 W K g r) (x : Int) : VrB w0 (W.setCell ⟨g, 3, none⟩ (.int .i64 x)) K g { r with cs := r.cs.set 3 x } := by
  obtain ⟨v, h⟩ := h
  obtain ⟨cs, st, at_, en, rt⟩ := r
  obtain ⟨a, b, c, d, rfl⟩ : ∃ a b c d, cs = [a, b, c, d] := by
    have := h.c4
    match cs, this with
    | [a, b, c, d], _ => exact ⟨a, b, c, d, rfl⟩
  exact ⟨v, below_set h.hB h.bg, h.bg, rfl, blk_put h.hk 3 _ (by simp [rdOf]), Kd.R_far h.hS (fun k hk => hk.1) _, vm_kset h.kept _ _⟩
theorem vm_box {w0 W : World} {K : List (Nat × Obj)} {g bx T : Nat} {a b : Value} {r : VR} (h : VrB w0 W ((bx, .cells #[a, b] T) :: K) g r) : W.cell? ⟨bx, 1, none⟩ = some b := by
  obtain ⟨v, h⟩ := h
  exact blk_cell (h.kept _ List.mem_cons_self).1 1
theorem vm_gen {P : World → Prop} (w : World) (F : World → Prop) (hF : F w) (h : ∀ W, F W → P W) : P w := h w hF
theorem vr_push (w0 w : World) (K : List (Nat × Obj)) (g : Nat) (r : VR) (x : Int) (h : VrB w0 w K g r) (hs : r.st.length ≤ 1000) : Calls Try.prog 90 #[.pointer (some ⟨g, 0, none⟩), .int .i64 x] w fun e w' => e = .returned (.tuple #[]) ∧ VrB w0 w' K g { r with st := x :: r.st } := by
  obtain ⟨vS, h⟩ := h
  refine (vpush_calls w0 w K g r.cs r.st.reverse r.at_ r.en r.rt x vS h (by simpa using hs)).mono ?_
  rintro e w' ⟨rfl, v2, h2⟩
  exact ⟨rfl, v2, by rw [List.reverse_cons]; exact h2⟩
theorem vr_pop (w0 w : World) (K : List (Nat × Obj)) (g : Nat) (r : VR) (x : Int) (s : List Int) (h : VrB w0 w K g r) (hs : r.st = x :: s) : Calls Try.prog 91 #[.pointer (some ⟨g, 0, none⟩)] w fun e w' => e = .returned (.int .i64 x) ∧ VrB w0 w' K g { r with st := s } := by
  obtain ⟨vS, h⟩ := h
  rw [hs, List.reverse_cons] at h
  refine (vpop_calls w0 w K g r.cs s.reverse r.at_ r.en r.rt x vS h).mono ?_
  rintro e w' ⟨rfl, v2, h2⟩
  exact ⟨rfl, v2, h2⟩
/-- One instruction: none where the stack is short or there is no such cell; none within where it refuses. -/
def vdo (op n kind arg : Int) (r : VR) : Option (Option VR) :=
  if op = 0 then some (some { r with st := n :: r.st, at_ := wrap64 (r.at_ + 1) })
  else if op = 1 then (match r.st with | _ :: s => some (some { r with st := s, at_ := wrap64 (r.at_ + 1) }) | [] => none)
  else if op = 2 then (match r.st with | x :: s => some (some { r with st := x :: x :: s, at_ := wrap64 (r.at_ + 1) }) | [] => none)
  else if op = 3 then (match r.st with | b :: a :: s => some (some { r with st := a :: b :: s, at_ := wrap64 (r.at_ + 1) }) | _ => none)
  else if op = 4 then (if 0 ≤ n ∧ n < 4 then some (some { r with st := rdOf 0 r.cs n :: r.st, at_ := wrap64 (r.at_ + 1) }) else none)
  else if op = 5 then (match r.st with | x :: s => if 0 ≤ n ∧ n < 4 then some (some { r with cs := r.cs.set n.toNat x, st := s, at_ := wrap64 (r.at_ + 1) }) else none | [] => none)
  else if op = 6 then some (some { r with st := arg :: r.st, at_ := wrap64 (r.at_ + 1) })
  else if op = 7 then some (some { r with st := kind :: r.st, at_ := wrap64 (r.at_ + 1) })
  else if op = 15 then (match r.st with | x :: s => some (some { r with st := (if x = 0 then 1 else 0) :: s, at_ := wrap64 (r.at_ + 1) }) | [] => none)
  else if op = 16 then some (some { r with at_ := n })
  else if op = 17 then (match r.st with | x :: s => some (some { r with st := s, at_ := if x = 0 then n else wrap64 (r.at_ + 1) }) | [] => none)
  else if op = 18 then (match r.st with | x :: s => some (some { r with st := s, at_ := wrap64 (r.at_ + 1), en := 1, rt := x }) | [] => none)
  else if op = 19 then some (some { r with at_ := wrap64 (r.at_ + 1), en := 2 })
  else (match r.st with | b :: a :: s => (match vtwo op a b with | none => some none | some v => some (some { r with st := v :: s, at_ := wrap64 (r.at_ + 1) })) | _ => none)

end Go.Proofs.Ytddkoimaghcbeaa.PVmSteps
