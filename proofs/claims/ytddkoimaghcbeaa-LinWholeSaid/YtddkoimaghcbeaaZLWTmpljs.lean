/- A part of what the law LinWhole stands on, only as far as it is needed (the words and walks were printed or written in this seat; this text was cut by a program of this session, wip/bin/trim.py). No condition beyond what each theorem says. -/
import Derived.Test.YtddkoimaghcbeaaZLWPVmStepsx0
import Derived.Test.YtddkoimaghcbeaaZLWPVmStepsx2
import Derived.Test.YtddkoimaghcbeaaZLWPVmStepsx3
import Derived.Test.YtddkoimaghcbeaaZLWPVmStepsx4
import Derived.Test.YtddkoimaghcbeaaZLWPVmStepsx5
import Derived.Test.YtddkoimaghcbeaaZLWTmplje
namespace Go.Proofs.Ytddkoimaghcbeaa.PVmSteps
open Go.RowKit Go.Proofs.YtddkoimaghcbeaaW.PrintWords Go.Proofs.YtddkoimaghcbeaaW.PrintLast Go.Proofs.YtddkoimaghcbeaaW.PrintMore
set_option linter.unusedVariables false
set_option linter.unusedSimpArgs false
abbrev r0Z : Ps := (0, [0, 0, 0, 0])
/-- Operation j is done next at a position. -/
def Mv (q : LinQ) (p : Ps) (j : Nat) (p' : Ps) : Prop :=
  j < q.ops.length ∧ freeZ q.ops p.1 j = true ∧ ∃ rr ru cs, vstep q.L p.2 (rd_T65 q.ops (j : Int)).f1 (rd_T65 q.ops (j : Int)).f2 q.fuel = some (1, cs, rr, ru) ∧ ((rd_T65 q.ops (j : Int)).f3 = false ∨ rr = (rd_T65 q.ops (j : Int)).f4) ∧ p' = (p.1 ||| 2 ^ j, cs)
def Pth (q : LinQ) : Ps → List Int → Ps → Prop
  | p, [], p' => p' = p
  | p, x :: o, p' => ∃ (j : Nat) (m : Ps), x = (j : Int) ∧ Mv q p j m ∧ Pth q m o p'
theorem Pth.snoc {q : LinQ} : ∀ {p : Ps} {o : List Int} {m p' : Ps} {j : Nat}, Pth q p o m → Mv q m j p' → Pth q p (o ++ [(j : Int)]) p'
  | p, [], m, p', j, h, hm => ⟨j, p', rfl, by rw [← h]; exact hm, rfl⟩
  | p, x :: o, m, p', j, ⟨i, n, e, h1, h2⟩, hm => ⟨i, n, e, h1, Pth.snoc h2 hm⟩
/-- All that are done are in the set. -/
def FullP (ops : List S65) (s : Nat) : Prop := s &&& mustZ ops = mustZ ops
theorem full_iff {ops : List S65} {s : Nat} : FullP ops s ↔ ∀ j : Nat, j < ops.length → (rd_T65 ops (j : Int)).f3 = true → s.testBit j = true := by
  unfold FullP
  constructor
  · intro h j hj hf
    have e := congrArg (fun z => z.testBit j) h
    simp only [Nat.testBit_and, mustZ, mask_bit, hj, decide_true, hf, Bool.and_true] at e
    exact e
  · intro h
    refine Nat.eq_of_testBit_eq (fun j => ?_)
    rw [Nat.testBit_and, mustZ, mask_bit]
    by_cases hj : j < ops.length
    · cases hf : (rd_T65 ops (j : Int)).f3 with
      | false => simp
      | true => simp [hj, h j hj hf]
    · simp [hj]
theorem free_iff {ops : List S65} {s j : Nat} : freeZ ops s j = true ↔ s.testBit j = false ∧ ∀ k : Nat, k < ops.length → befZ (rd_T65 ops (k : Int)) (rd_T65 ops (j : Int)) = true → s.testBit k = true := by
  unfold freeZ
  rw [Bool.and_eq_true, Bool.not_eq_true', decide_eq_true_iff, lack_0]
  constructor
  · rintro ⟨h1, h2⟩
    exact ⟨h1, fun k hk hb => h2 k (by rw [aheadZ, mask_bit]; simp [hk, hb])⟩
  · rintro ⟨h1, h2⟩
    refine ⟨h1, fun k hk => ?_⟩
    rw [aheadZ, mask_bit] at hk
    simp only [Bool.and_eq_true, decide_eq_true_iff] at hk
    exact h2 k hk.1 hk.2
theorem mv_bit {q : LinQ} {p p' : Ps} {j : Nat} (h : Mv q p j p') (k : Nat) : p'.1.testBit k = (p.1.testBit k || decide (j = k)) := by
  obtain ⟨_, _, rr, ru, cs, _, _, rfl⟩ := h
  rw [Nat.testBit_or, Nat.testBit_two_pow]
theorem pth_bits {q : LinQ} : ∀ {o : List Int} {p p' : Ps}, Pth q p o p' → ∀ k : Nat, p'.1.testBit k = true ↔ (p.1.testBit k = true ∨ (k : Int) ∈ o)
  | [], p, p', h, k => by rw [show p' = p from h]; simp
  | x :: o, p, p', ⟨j, m, e, h1, h2⟩, k => by
    rw [pth_bits h2 k, mv_bit h1 k, e]
    simp only [Bool.or_eq_true, decide_eq_true_iff, List.mem_cons, Int.ofNat_inj]
    constructor
    · rintro ((a | a) | a)
      · exact .inl a
      · exact .inr (.inl a.symm)
      · exact .inr (.inr a)
    · rintro (a | a | a)
      · exact .inl (.inl a)
      · exact .inl (.inr a.symm)
      · exact .inr a
theorem pth_facts {q : LinQ} : ∀ {o : List Int} {p p' : Ps}, Pth q p o p' → (∀ x ∈ o, 0 ≤ x ∧ x < (q.ops.length : Int) ∧ p.1.testBit x.toNat = false) ∧ o.Pairwise (· ≠ ·) ∧ o.Pairwise (fun y x => befZ (rd_T65 q.ops x) (rd_T65 q.ops y) = false) ∧ ordZ q.L q.ops q.fuel o p.2 = 0
  | [], p, p', h => ⟨by simp, List.Pairwise.nil, List.Pairwise.nil, rfl⟩
  | x :: o, p, p', ⟨j, m, e, h1, h2⟩ => by
    obtain ⟨i1, i2, i3, i4⟩ := pth_facts h2
    have hb := mv_bit h1
    obtain ⟨hj, hf, rr, ru, cs, hv, hr, rfl⟩ := h1
    obtain ⟨f1, f2⟩ := free_iff.mp hf
    subst e
    have ho : ∀ y ∈ o, y ≠ (j : Int) ∧ p.1.testBit y.toNat = false := fun y hy => by
      have hy' := i1 y hy
      have hq := hb y.toNat
      rw [hy'.2.2] at hq
      have hq' : p.1.testBit y.toNat = false ∧ ¬ j = y.toNat := by simpa using hq.symm
      exact ⟨fun e => hq'.2 (by omega), hq'.1⟩
    refine ⟨fun y hy => ?_, ?_, ?_, ?_⟩
    · rcases List.mem_cons.mp hy with rfl | hy
      · exact ⟨by omega, by omega, by simpa using f1⟩
      · exact ⟨(i1 y hy).1, (i1 y hy).2.1, (ho y hy).2⟩
    · exact List.pairwise_cons.mpr ⟨fun y hy e => (ho y hy).1 e.symm, i2⟩
    · refine List.pairwise_cons.mpr ⟨fun y hy => ?_, i3⟩
      cases c : befZ (rd_T65 q.ops y) (rd_T65 q.ops (j : Int)) with
      | false => rfl
      | true =>
        have hy' := i1 y hy
        have e : ((y.toNat : Nat) : Int) = y := by omega
        have := f2 y.toNat (by omega) (by rw [e]; exact c)
        rw [(ho y hy).2] at this; cases this
    · rw [ordZ_go hv hr]; exact i4
/-- A way to a position that holds all that are done is an order. -/
theorem pth_ord {q : LinQ} (hc : (thru q.L).2.2 = 0) (hf : 0 ≤ q.fuel ∧ q.fuel ≤ 10000) (hn : q.ops.length ≤ 64) {o : List Int} {p : Ps} (h : Pth q r0Z o p) (hp : FullP q.ops p.1) : ordC q.L q.fuel q.ops o = 0 := by
  obtain ⟨h1, h2, h3, h4⟩ := pth_facts h
  have hpl : placeZ q.ops o (List.replicate q.ops.length false) = 0 := by
    refine placeZ_of q.ops o _ (by simp) h2 (fun i hi => ⟨(h1 i hi).1, (h1 i hi).2.1, ?_⟩) (fun j hj hd => .inr ?_)
    · simp [rdOf, List.getElem?_replicate]; split <;> rfl
    · have := (pth_bits h j).mp (full_iff.mp hp j hj hd)
      simpa [r0Z] using this
  have htm : timeZ q.ops [] o = true := timeZ_true q.ops o (fun i k hik hk => by
    rw [rd_get o k hk, rd_get o i (by omega)]
    exact List.pairwise_iff_getElem.mp h3 i k (by omega) hk hik)
  unfold ordC
  rw [if_neg (by simpa using hc), if_neg (by omega), if_neg (by omega), if_neg (by simpa using hpl), if_neg (by simp [htm])]
  exact h4
/-- And every order is such a way. -/
theorem ord_pth_go {q : LinQ} (hc : (thru q.L).2.2 = 0) (hs : ∀ i : Nat, i < q.ops.length → befZ (rd_T65 q.ops (i : Int)) (rd_T65 q.ops (i : Int)) = false) : ∀ (o : List Int) (p : Ps), (∀ x ∈ o, 0 ≤ x ∧ x < (q.ops.length : Int) ∧ p.1.testBit x.toNat = false) → o.Pairwise (· ≠ ·) → o.Pairwise (fun y x => befZ (rd_T65 q.ops x) (rd_T65 q.ops y) = false) →
    (∀ x ∈ o, ∀ k : Nat, k < q.ops.length → befZ (rd_T65 q.ops (k : Int)) (rd_T65 q.ops x) = true → p.1.testBit k = true ∨ (k : Int) ∈ o) → p.2.length = 4 → ordZ q.L q.ops q.fuel o p.2 = 0 → ∃ p', Pth q p o p'
  | [], p, _, _, _, _, _, _ => ⟨p, rfl⟩
  | x :: o, p, h1, h2, h3, h4, h5, h6 => by
    obtain ⟨a0, a1, a2⟩ := h1 x (by simp)
    obtain ⟨j, rfl⟩ := Int.eq_ofNat_of_zero_le a0
    obtain ⟨b1, b2⟩ := List.pairwise_cons.mp h2
    obtain ⟨t1, t2⟩ := List.pairwise_cons.mp h3
    obtain ⟨rk, cs, rr, ru, hv, h7, _⟩ := vstep_good q.L hc p.2 h5 (rd_T65 q.ops (j : Int)).f1 (rd_T65 q.ops (j : Int)).f2 q.fuel
    have hk : rk = 1 := Classical.byContradiction fun e => by rw [ordZ_18 hv e] at h6; cases h6
    subst hk
    have hr : (rd_T65 q.ops (j : Int)).f3 = false ∨ rr = (rd_T65 q.ops (j : Int)).f4 := by
      cases hd : (rd_T65 q.ops (j : Int)).f3 with
      | false => exact .inl rfl
      | true => exact .inr (Classical.byContradiction fun e => by rw [ordZ_19 hv hd e] at h6; cases h6)
    rw [ordZ_go hv hr] at h6
    have hjn : j < q.ops.length := by omega
    have hm : Mv q p j (p.1 ||| 2 ^ j, cs) := by
      refine ⟨hjn, free_iff.mpr ⟨by simpa using a2, fun k hk hb => ?_⟩, rr, ru, cs, hv, hr, rfl⟩
      rcases h4 (j : Int) (by simp) k hk hb with e | e
      · exact e
      · rcases List.mem_cons.mp e with e | e
        · have : k = j := by omega
          subst this
          rw [hs k hk] at hb; cases hb
        · rw [t1 _ e] at hb; cases hb
    have hb := mv_bit hm
    obtain ⟨p', hp'⟩ := ord_pth_go hc hs o (p.1 ||| 2 ^ j, cs) (fun y hy => by
      obtain ⟨y0, y1, y2⟩ := h1 y (by simp [hy])
      refine ⟨y0, y1, ?_⟩
      rw [hb, y2]
      have := b1 y hy
      simp; omega) b2 t2 (fun y hy k hk hbk => by
      rcases h4 y (by simp [hy]) k hk hbk with e | e
      · exact .inl (by rw [hb, e]; rfl)
      · rcases List.mem_cons.mp e with e | e
        · exact .inl (by rw [hb]; have : j = k := by omega
                         simp [this])
        · exact .inr e) h7 h6
    exact ⟨p', j, _, rfl, hm, hp'⟩
theorem ord_pth {q : LinQ} (hs : ∀ i : Nat, i < q.ops.length → befZ (rd_T65 q.ops (i : Int)) (rd_T65 q.ops (i : Int)) = false) {o : List Int} (h : ordC q.L q.fuel q.ops o = 0) : ∃ p, Pth q r0Z o p ∧ FullP q.ops p.1 := by
  obtain ⟨hn, hF⟩ := ordF_of h
  have hbe : ∀ a b : S65, befZ a b = true → a.f3 = true := fun a b hb => by
    unfold befZ at hb
    split at hb
    · assumption
    · cases hb
  unfold ordC at h
  by_cases hc : (thru q.L).2.2 = 0
  rotate_left
  · rw [if_pos hc] at h; exact absurd h hc
  rw [if_neg (fun z => z hc)] at h
  by_cases hf : q.fuel < 0 ∨ 10000 < q.fuel
  · rw [if_pos hf] at h; cases h
  rw [if_neg hf, if_neg (by omega)] at h
  by_cases hp : placeZ q.ops o (List.replicate q.ops.length false) = 0
  rotate_left
  · rw [if_pos hp] at h; exact absurd h hp
  rw [if_neg (fun z => z hp)] at h
  by_cases ht : timeZ q.ops [] o = false
  · rw [if_pos ht] at h; cases h
  rw [if_neg ht] at h
  obtain ⟨p, hp2⟩ := ord_pth_go hc hs o r0Z (fun x hx => by
    obtain ⟨k, hk, e⟩ := List.getElem_of_mem hx
    have := hF.ix k hk
    rw [rd_get o k hk, e] at this
    exact ⟨this.1, this.2, by simp [r0Z]⟩) (List.pairwise_iff_getElem.mpr (fun i k hi hk hik => by
      have := hF.nd i k hik hk
      rwa [rd_get o i hi, rd_get o k hk] at this)) (List.pairwise_iff_getElem.mpr (fun i k hi hk hik => by
      have := hF.tm i k hik hk
      rwa [rd_get o i hi, rd_get o k hk] at this)) (fun x hx k hk hb => .inr (by
        obtain ⟨a, ha, e⟩ := hF.dn k hk (hbe _ _ hb)
        rw [rd_get o a ha] at e
        rw [← e]; exact List.getElem_mem ha)) rfl h
  refine ⟨p, hp2, full_iff.mpr (fun j hj hd => ?_)⟩
  obtain ⟨a, ha, e⟩ := hF.dn j hj hd
  rw [rd_get o a ha] at e
  exact (pth_bits hp2 j).mpr (.inr (by rw [← e]; exact List.getElem_mem ha))
end Go.Proofs.Ytddkoimaghcbeaa.PVmSteps
