/- A part of what the law LinTells stands on, only as far as it is needed (the words and walks were printed or written in this seat; this text was cut by a program of this session, wip/bin/trim.py). No condition beyond what each theorem says. -/
import Derived.IntWalk
import Derived.Test.YtddkoimaghcbeaaZLTPVmStepsx0
import Derived.Test.YtddkoimaghcbeaaZLTPVmStepsx2
import Derived.Test.YtddkoimaghcbeaaZLTPVmStepsx3
import Derived.Test.YtddkoimaghcbeaaZLTPVmStepsx4
import Derived.Test.YtddkoimaghcbeaaZLTPVmStepsx5
import Derived.Test.YtddkoimaghcbeaaZLTPVmStepsx6
import Derived.Test.YtddkoimaghcbeaaZLTTmpvmu
import Derived.Test.YtddkoimaghcbeaaZLTTmprfs
import Derived.Test.YtddkoimaghcbeaaZLTTmporp
namespace Go.Proofs.Ytddkoimaghcbeaa.PVmSteps
open Go.RowKit Go.Proofs.YtddkoimaghcbeaaW.PrintWords Go.Proofs.YtddkoimaghcbeaaW.PrintLast Go.Proofs.YtddkoimaghcbeaaW.PrintMore
set_option linter.unusedVariables false
set_option linter.unusedSimpArgs false
def befZ (a b : S65) : Bool := if a.f3 = true then decide (a.f6 < b.f5) else false
theorem hist_bef (a b : S65) : hist_Before.f a.f0 a.f1 a.f2 a.f3 a.f4 a.f5 a.f6 b.f0 b.f1 b.f2 b.f3 b.f4 b.f5 b.f6 = some (befZ a b) := by
  unfold hist_Before.f befZ; split <;> rfl
theorem or_info3 : (Try.prog.info? 3).map (fun i => (i.zero, i.size, i.bytes)) = some (some (.int .i64 0), 1, 8) := by kernel_rfl
theorem few17 (l : List S65) (n : Int) (h0 : 0 ≤ n) (h1 : n ≤ 1000) : inquestref17_Few.f l n = some (l.take n.toNat) := by
  unfold inquestref17_Few.f
  by_cases c : (l.length : Int) > n
  · rw [if_pos c, if_pos h0, if_pos (by omega), Option.bind_some, if_pos (by simp [List.length_take]; omega)]; rfl
  · rw [if_neg c, if_pos (by simp; omega), List.take_of_length_le (by omega)]; rfl
theorem vgo_inR {L : List S36} {kind arg : Int} {c0 : List Int} (hki : inR kind) (har : inR arg) (hco : ∀ i : Int, 0 ≤ i → i < (L.length : Int) → inR (rd_T36 L i).f1) (h0 : ∀ x ∈ c0, inR x) : ∀ (f : Nat) (u : Int) (r : VR) (rk : Int) (rs : List Int) (rr ru : Int), VRok r → vgo L kind arg c0 f u r = some (rk, rs, rr, ru) → ∀ x ∈ rs, inR x
  | f, u, r, rk, rs, rr, ru, hr, h => by
    by_cases he : r.en = 0
    · cases f with
      | zero => rw [vgo_0 he] at h; cases h; exact h0
      | succ f =>
        have h2 := h
        unfold vgo at h
        rw [if_pos he] at h
        dsimp only at h
        split at h
        · rename_i hg
          split at h
          · cases h
          · cases h; exact h0
          · rename_i r' hv
            exact vgo_inR hki har hco h0 f _ r' rk rs rr ru (vdo_ok _ _ _ _ _ _ hr (hco _ hg.1 hg.2.1) hki har hv) h
        · cases h
    · by_cases h2 : r.en = 2
      · rw [vgo_2 h2] at h; cases h; exact h0
      · rw [vgo_1 he h2] at h; cases h; exact hr.1
theorem vstep_inR {L : List S36} {kind arg fuel : Int} {c0 : List Int} (hki : inR kind) (har : inR arg) (hco : ∀ i : Int, 0 ≤ i → i < (L.length : Int) → inR (rd_T36 L i).f1) (h0 : ∀ x ∈ c0, inR x) {rk : Int} {rs : List Int} {rr ru : Int} (h : vstep L c0 kind arg fuel = some (rk, rs, rr, ru)) : ∀ x ∈ rs, inR x :=
  vgo_inR hki har hco h0 _ _ _ _ _ _ _ ⟨h0, by simp, by simp [inR]⟩ h
theorem r14_bef (a b : S65) (w : World) : Calls Try.prog 62 #[.agg #[.int .i64 a.f0, .int .i64 a.f1, .int .i64 a.f2, .bool a.f3, .int .i64 a.f4, .int .i64 a.f5, .int .i64 a.f6], .agg #[.int .i64 b.f0, .int .i64 b.f1, .int .i64 b.f2, .bool b.f3, .int .i64 b.f4, .int .i64 b.f5, .int .i64 b.f6]] w fun e w' => e = .returned (.bool (befZ a b)) ∧ Below w.heap.size w w' :=
  inquestref14_Before.calls a.f0 a.f1 a.f2 a.f3 a.f4 a.f5 a.f6 b.f0 b.f1 b.f2 b.f3 b.f4 b.f5 b.f6 _ w (by unfold inquestref14_Before.f befZ; split <;> rfl)
theorem op_cells7 {w : World} {A : Option Addr} {n : Nat} {xs : List S65} (h : Kd.C k65 w A n xs) (i : Int) (h0 : 0 ≤ i) (h1 : i < n) : ∃ ad, A = some ad ∧ ∀ W_ : World, Below w.heap.size w W_ → (W_.cell? (ad.add (i.toNat * 7)) = some (.int .i64 (rd_T65 xs i).f0) ∧ W_.cell? ⟨(ad.add (i.toNat * 7)).block, (ad.add (i.toNat * 7)).off + 1, none⟩ = some (.int .i64 (rd_T65 xs i).f1) ∧ W_.cell? ⟨(ad.add (i.toNat * 7)).block, (ad.add (i.toNat * 7)).off + 2, none⟩ = some (.int .i64 (rd_T65 xs i).f2) ∧ W_.cell? ⟨(ad.add (i.toNat * 7)).block, (ad.add (i.toNat * 7)).off + 3, none⟩ = some (.bool (rd_T65 xs i).f3) ∧ W_.cell? ⟨(ad.add (i.toNat * 7)).block, (ad.add (i.toNat * 7)).off + 4, none⟩ = some (.int .i64 (rd_T65 xs i).f4) ∧ W_.cell? ⟨(ad.add (i.toNat * 7)).block, (ad.add (i.toNat * 7)).off + 5, none⟩ = some (.int .i64 (rd_T65 xs i).f5) ∧ W_.cell? ⟨(ad.add (i.toNat * 7)).block, (ad.add (i.toNat * 7)).off + 6, none⟩ = some (.int .i64 (rd_T65 xs i).f6)) := by
  obtain ⟨ad, e, x0, x1, x2, x3, x4, x5, x6⟩ := at_T65 h i h0 h1
  exact ⟨ad, e, fun W_ hb => ⟨(hb.cell (World.block_lt_of_cell? w _ x0)).trans x0, (hb.cell (World.block_lt_of_cell? w _ x1)).trans x1, (hb.cell (World.block_lt_of_cell? w _ x2)).trans x2, (hb.cell (World.block_lt_of_cell? w _ x3)).trans x3, (hb.cell (World.block_lt_of_cell? w _ x4)).trans x4, (hb.cell (World.block_lt_of_cell? w _ x5)).trans x5, (hb.cell (World.block_lt_of_cell? w _ x6)).trans x6⟩⟩
theorem alike_l0 (l : List S65) (hl : l.length ≤ 1000) (d : Nat) : ∀ i : Nat, l.length - i = d → i ≤ l.length → Ev (fun k => inquestref14_Alike.l0 k l l i) true := by
  induction d with
  | zero =>
    intro i hd hi
    refine Ev.step (f := fun _ => some true) (fun k => ?_) (Ev.now _)
    simp only [inquestref14_Alike.l0]; rw [if_neg (by omega)]
  | succ d ih =>
    intro i hd hi
    refine Ev.step (fun k => ?_) (ih (i + 1) (by omega) (by omega))
    simp only [inquestref14_Alike.l0]; rw [if_pos (by omega), if_pos (by omega), if_pos (by omega), if_neg (by simp), w64 (by omega) (by omega)]; rfl
theorem alike_ex (l : List S65) (hl : l.length ≤ 1000) : ∃ k, inquestref14_Alike.f k l l = some true := by
  obtain ⟨k, h⟩ := Ev.rounds (alike_l0 l hl _ 0 rfl (by omega)); exact ⟨k, by unfold inquestref14_Alike.f; rw [if_pos rfl]; exact h⟩
theorem op_in (ops : List S65) (h : ∀ x ∈ ops, (Lit.int .i64 x.f0).wf = true ∧ (Lit.int .i64 x.f1).wf = true ∧ (Lit.int .i64 x.f2).wf = true ∧ (Lit.int .i64 x.f4).wf = true ∧ (Lit.int .i64 x.f5).wf = true ∧ (Lit.int .i64 x.f6).wf = true) (i : Int) (h0 : 0 ≤ i) (h1 : i < (ops.length : Int)) : inR (rd_T65 ops i).f1 ∧ inR (rd_T65 ops i).f2 := by
  have hm : rd_T65 ops i ∈ ops := by
    unfold rd_T65
    rw [List.getD_eq_getElem?_getD, List.getElem?_eq_getElem (by omega)]
    exact List.getElem_mem _
  have := h _ hm
  exact ⟨inR_wf this.2.1, inR_wf this.2.2.1⟩
end Go.Proofs.Ytddkoimaghcbeaa.PVmSteps
