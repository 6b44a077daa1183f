/- A part of the proofs about layers 16 to 18 (vm, order, lin) and their references: contracts and plain lemmas that the laws stand on. No condition beyond what each theorem says. -/
import Derived.Test.YtddkoimaghcbeaaPVmStepsx1
import Derived.Test.YtddkoimaghcbeaaPVmStepsx2
import Derived.Test.YtddkoimaghcbeaaPVmStepsx3
import Derived.Test.YtddkoimaghcbeaaPVmStepsx4
import Derived.Test.YtddkoimaghcbeaaPVmStepsx5
import Derived.Test.YtddkoimaghcbeaaPVmStepsx6
import Derived.Test.YtddkoimaghcbeaaTmporf
namespace Go.Proofs.Ytddkoimaghcbeaa.PVmSteps
open Go.RowKit Go.Proofs.YtddkoimaghcbeaaW.PrintWords Go.Proofs.YtddkoimaghcbeaaW.PrintLast Go.Proofs.YtddkoimaghcbeaaW.PrintMore
set_option linter.unusedVariables false
set_option linter.unusedSimpArgs false
/-- What an order that is one is like. -/
structure OrdF (ops : List S65) (o : List Int) : Prop where
  ix : ∀ i : Nat, i < o.length → 0 ≤ rd o i ∧ rd o i < (ops.length : Int)
  nd : ∀ i k : Nat, i < k → k < o.length → rd o i ≠ rd o k
  dn : ∀ j : Nat, j < ops.length → (rd_T65 ops j).f3 = true → ∃ k : Nat, k < o.length ∧ rd o k = j
  tm : ∀ b a : Nat, b < a → a < o.length → befZ (rd_T65 ops (rd o a)) (rd_T65 ops (rd o b)) = false
theorem rd_get (o : List Int) (i : Nat) (h : i < o.length) : rd o (i : Int) = o[i] := by simp [rd, List.getElem?_eq_getElem h]
theorem doneZ_get (s : List Bool) (ops : List S65) : ∀ (d i : Nat), ops.length - i = d → doneZ s (ops.drop i) i = true → ∀ j : Nat, i ≤ j → j < ops.length → (rd_T65 ops j).f3 = true → rdOf false s (j : Int) = true
  | 0, i, hd, _, j, hij, hj, _ => by omega
  | d + 1, i, hd, h, j, hij, hj, hf => by
    rw [op_drop ops i (by omega), doneZ] at h
    by_cases c : (rd_T65 ops i).f3 = true ∧ rdOf false s (i : Int) = false
    · rw [if_pos c] at h; cases h
    · rw [if_neg c] at h
      by_cases e : j = i
      · subst e
        cases q : rdOf false s (j : Int) with
        | true => rfl
        | false => exact absurd ⟨hf, q⟩ c
      · exact doneZ_get s ops d (i + 1) (by omega) h j (by omega) hj hf
theorem rdB_set (s : List Bool) (i j : Nat) (h : i < s.length) : rdOf false (s.set i true) (j : Int) = if j = i then true else rdOf false s (j : Int) := by
  simp only [rdOf, Int.toNat_natCast, List.getD_eq_getElem?_getD]
  by_cases c : j = i
  · subst c; rw [if_pos rfl, List.getElem?_set_self h]; rfl
  · rw [if_neg c, List.getElem?_set_ne (by omega)]
theorem placeZ_facts (ops : List S65) : ∀ (o : List Int) (s : List Bool), placeZ ops o s = 0 → s.length = ops.length →
    o.Pairwise (· ≠ ·) ∧ (∀ i ∈ o, 0 ≤ i ∧ i < (ops.length : Int) ∧ rdOf false s i = false) ∧ (∀ j : Nat, j < ops.length → (rd_T65 ops j).f3 = true → rdOf false s (j : Int) = true ∨ (j : Int) ∈ o)
  | [], s, h, hs => by
    refine ⟨List.Pairwise.nil, by simp, fun j hj hf => .inl ?_⟩
    rw [placeZ] at h
    split at h
    · rename_i c; exact doneZ_get s ops _ 0 rfl c j (by omega) hj hf
    · cases h
  | x :: o, s, h, hs => by
    rw [placeZ] at h
    split at h
    rotate_left
    · cases h
    rename_i c
    obtain ⟨h1, h2, h3⟩ := placeZ_facts ops o _ h (by simpa using hs)
    have hx : ((x.toNat : Nat) : Int) = x := by omega
    refine ⟨List.Pairwise.cons (fun y hy e => ?_) h1, fun i hi => ?_, fun j hj hf => ?_⟩
    · subst e
      have := (h2 x hy).2.2
      rw [← hx, rdB_set s _ _ (by omega), if_pos (by omega)] at this
      cases this
    · rcases List.mem_cons.mp hi with rfl | hi
      · exact c
      · obtain ⟨a, b, d⟩ := h2 i hi
        refine ⟨a, b, ?_⟩
        have hi2 : ((i.toNat : Nat) : Int) = i := by omega
        rw [← hi2, rdB_set s _ _ (by omega)] at d
        split at d
        · cases d
        · rw [← hi2]; exact d
    · rcases h3 j hj hf with e | e
      · rw [rdB_set s _ _ (by omega)] at e
        split at e
        · rename_i q; exact .inr (List.mem_cons.mpr (.inl (by omega)))
        · exact .inl e
      · exact .inr (List.mem_cons_of_mem _ e)
theorem innerZ_get (ops : List S65) (a : S65) : ∀ (l : List Int), innerZ ops a l = true → ∀ x ∈ l, befZ a (rd_T65 ops x) = false
  | [], _, x, hx => by simp at hx
  | y :: l, h, x, hx => by
    rw [innerZ] at h
    cases q : befZ a (rd_T65 ops y) with
    | true => rw [q, if_pos rfl] at h; cases h
    | false =>
      rw [q, if_neg (by simp)] at h
      rcases List.mem_cons.mp hx with rfl | hx
      · exact q
      · exact innerZ_get ops a l h x hx
theorem timeZ_get (ops : List S65) : ∀ (r pre : List Int), timeZ ops pre r = true → ∀ (a : Nat) (ha : a < r.length) (x : Int), x ∈ pre ∨ x ∈ r.take a → befZ (rd_T65 ops r[a]) (rd_T65 ops x) = false
  | [], _, _, a, ha, _, _ => by simp at ha
  | y :: r, pre, h, a, ha, x, hx => by
    rw [timeZ] at h
    split at h
    rotate_left
    · cases h
    rename_i c
    cases a with
    | zero =>
      rcases hx with hx | hx
      · exact innerZ_get ops _ pre c x hx
      · simp at hx
    | succ a =>
      refine timeZ_get ops r (pre ++ [y]) h a (by simpa using ha) x ?_
      rcases hx with hx | hx
      · exact .inl (by simp [hx])
      · simp only [List.take_succ_cons, List.mem_cons] at hx
        rcases hx with rfl | hx
        · exact .inl (by simp)
        · exact .inr hx
theorem ordF_of {L : List S36} {f : Int} {ops : List S65} {o : List Int} (h : ordC L f ops o = 0) : ops.length ≤ 64 ∧ OrdF ops o := by
  unfold ordC at h
  by_cases ht : (thru L).2.2 = 0
  rotate_left
  · rw [if_pos ht] at h; exact absurd h ht
  rw [if_neg (fun q => q ht)] at h
  by_cases hf : f < 0 ∨ 10000 < f
  · rw [if_pos hf] at h; cases h
  rw [if_neg hf] at h
  by_cases hn : 64 < ops.length
  · rw [if_pos hn] at h; cases h
  rw [if_neg hn] at h
  by_cases hp : placeZ ops o (List.replicate ops.length false) = 0
  rotate_left
  · rw [if_pos hp] at h; exact absurd h hp
  rw [if_neg (fun q => q hp)] at h
  by_cases hq : timeZ ops [] o = false
  · rw [if_pos hq] at h; cases h
  have hq : timeZ ops [] o = true := by simpa using hq
  obtain ⟨h1, h2, h3⟩ := placeZ_facts ops o _ hp (by simp)
  refine ⟨by omega, fun i hi => ?_, fun i k hik hk => ?_, fun j hj hf => ?_, fun b a hba ha => ?_⟩
  · have := h2 _ (rd_mem o i hi); exact ⟨this.1, this.2.1⟩
  · rw [rd_get o i (by omega), rd_get o k hk]
    exact List.pairwise_iff_getElem.mp h1 i k (by omega) hk hik
  · rcases h3 j hj hf with e | e
    · have : rdOf false (List.replicate ops.length false) (j : Int) = false := by simp [rdOf, List.getElem?_replicate]; split <;> rfl
      rw [this] at e; cases e
    · obtain ⟨k, hk, e⟩ := List.getElem_of_mem e
      exact ⟨k, hk, by rw [rd_get o k hk]; exact e⟩
  · rw [rd_get o a ha, rd_get o b (by omega)]
    exact timeZ_get ops o [] hq a ha _ (.inr (List.mem_iff_getElem.mpr ⟨b, by rw [List.length_take]; omega, by simp⟩))
/-- Where each stands: 0, or one more than its place. -/
def AtI (n : Nat) (o : List Int) (i : Nat) (at_ : List Int) : Prop := at_.length = n ∧ ∀ j : Nat, j < n → (rd at_ (j : Int) = 0 ∧ ∀ k : Nat, k < i → rd o k ≠ j) ∨ (∃ k : Nat, k < i ∧ rd o k = (j : Int) ∧ rd at_ (j : Int) = k + 1)
theorem atI_zero (n : Nat) (o : List Int) : AtI n o 0 (List.replicate n 0) := ⟨by simp, fun j hj => .inl ⟨by simp [rd, List.getElem?_replicate, hj], fun k hk => by omega⟩⟩
theorem atI_step {n : Nat} {o : List Int} {i : Nat} {at_ : List Int} (h : AtI n o i at_) (hx : 0 ≤ rd o i ∧ rd o i < (n : Int)) (hne : ∀ k : Nat, k < i → rd o k ≠ rd o i) :
    rd at_ (rd o i) = 0 ∧ AtI n o (i + 1) (at_.set (rd o i).toNat ((i : Int) + 1)) := by
  have hix : (((rd o i).toNat : Nat) : Int) = rd o i := by omega
  constructor
  · rcases h.2 (rd o i).toNat (by omega) with ⟨e, _⟩ | ⟨k, hk, e, _⟩
    · rw [hix] at e; exact e
    · exact absurd (e.trans hix) (hne k hk)
  · refine ⟨by simpa using h.1, fun j hj => ?_⟩
    rw [rd_set at_ (rd o i).toNat j _ (by have := h.1; omega)]
    by_cases c : j = (rd o i).toNat
    · rw [if_pos c]; exact .inr ⟨i, by omega, by omega, rfl⟩
    · rw [if_neg c]
      rcases h.2 j hj with ⟨e, q⟩ | ⟨k, hk, e, q⟩
      · refine .inl ⟨e, fun k hk => ?_⟩
        by_cases d : k = i
        · subst d; omega
        · exact q k (by omega)
      · exact .inr ⟨k, by omega, e, q⟩
theorem atI_done {ops : List S65} {o : List Int} {at_ : List Int} (hF : OrdF ops o) (h : AtI ops.length o o.length at_) (j : Nat) (hj : j < ops.length) (hf : (rd_T65 ops j).f3 = true) : rd at_ (j : Int) ≠ 0 := by
  obtain ⟨k, hk, e⟩ := hF.dn j hj hf
  rcases h.2 j hj with ⟨_, q⟩ | ⟨k', _, _, q⟩
  · exact absurd e (q k hk)
  · omega
theorem atI_time {ops : List S65} {o : List Int} {at_ : List Int} (hF : OrdF ops o) (h : AtI ops.length o o.length at_) (i k : Nat) (hi : i < ops.length) (hk : k < ops.length) (h1 : 0 < rd at_ (i : Int)) (h2 : 0 < rd at_ (k : Int))
    (hf : (rd_T65 ops i).f3 = true) (ht : (rd_T65 ops i).f6 < (rd_T65 ops k).f5) : ¬ rd at_ (k : Int) < rd at_ (i : Int) := by
  intro hlt
  rcases h.2 i hi with ⟨q, _⟩ | ⟨a, ha, ea, qa⟩
  · omega
  rcases h.2 k hk with ⟨q, _⟩ | ⟨b, hb, eb, qb⟩
  · omega
  have := hF.tm b a (by omega) ha
  rw [ea, eb] at this
  unfold befZ at this
  rw [if_pos hf] at this
  simp at this
  omega

end Go.Proofs.Ytddkoimaghcbeaa.PVmSteps
