/- A part of the proofs about layers 16 to 18 (vm, order, lin) and their references: contracts and plain lemmas that the laws stand on. No condition beyond what each theorem says. -/
import Derived.Test.YtddkoimaghcbeaaPVmStepsx1
import Derived.Test.YtddkoimaghcbeaaPVmStepsx2
import Derived.Test.YtddkoimaghcbeaaPVmStepsx3
import Derived.Test.YtddkoimaghcbeaaPVmStepsx4
import Derived.Test.YtddkoimaghcbeaaPVmStepsx5
import Derived.Test.YtddkoimaghcbeaaPVmStepsx6
import Derived.Test.YtddkoimaghcbeaaTmporb
import Derived.Test.YtddkoimaghcbeaaTmporc
namespace Go.Proofs.Ytddkoimaghcbeaa.PVmSteps
open Go.RowKit Go.Proofs.YtddkoimaghcbeaaW.PrintWords Go.Proofs.YtddkoimaghcbeaaW.PrintLast Go.Proofs.YtddkoimaghcbeaaW.PrintMore
set_option linter.unusedVariables false
set_option linter.unusedSimpArgs false
theorem op_drop (xs : List S65) (i : Nat) (h : i < xs.length) : xs.drop i = rd_T65 xs i :: xs.drop (i + 1) := by
  rw [List.drop_eq_getElem_cons h]; congr 1; simp [rd_T65, List.getElem?_eq_getElem h]
/-- All that are done are seen. -/
def doneZ (s : List Bool) : List S65 → Nat → Bool
  | [], _ => true
  | x :: xs, j => if x.f3 = true ∧ rdOf false s j = false then false else doneZ s xs (j + 1)
/-- Each number is a place, once, and all that are done are there: 0, ErrArg, ErrNone. -/
def placeZ (ops : List S65) : List Int → List Bool → Int
  | [], s => if doneZ s ops 0 = true then 0 else 9
  | i :: o, s => if 0 ≤ i ∧ i < (ops.length : Int) ∧ rdOf false s i = false then placeZ ops o (s.set i.toNat true) else 2
theorem order_placed_l1 (d : Nat) : ∀ (s : List Bool) (ops : List S65) (i : Nat), ops.length - i = d → i ≤ ops.length → ops.length ≤ 1000 → s.length = ops.length →
    Ev (fun k => order_placed.l1 k s ops (ops.length : Int) i) (if doneZ s (ops.drop i) i = true then 0 else 9) := by
  induction d with
  | zero =>
    intro s ops i hd hi hl hs
    refine Ev.step (f := fun _ => some 0) (fun k => ?_) (by rw [List.drop_of_length_le (by omega)]; exact Ev.now _)
    simp only [order_placed.l1]; rw [if_neg (by omega)]
  | succ d ih =>
    intro s ops i hd hi hl hs
    rw [op_drop ops i (by omega)]
    by_cases c : (rd_T65 ops i).f3 = true
    · cases c1 : rdOf false s (i : Int) with
      | false =>
        rw [show doneZ s (rd_T65 ops i :: ops.drop (i + 1)) i = false by rw [doneZ, if_pos ⟨c, c1⟩], if_neg (by simp)]
        refine Ev.step (f := fun _ => some 9) (fun k => ?_) (Ev.now _)
        simp only [order_placed.l1]; rw [if_pos (by omega), if_pos (by omega), if_pos (by omega), if_pos c, if_pos (by omega), c1]; rfl
      | true =>
        rw [show doneZ s (rd_T65 ops i :: ops.drop (i + 1)) i = doneZ s (ops.drop (i + 1)) (i + 1) by rw [doneZ, if_neg (by rw [c1]; simp)]]
        refine Ev.step (fun k => ?_) (ih s ops (i + 1) (by omega) (by omega) hl hs)
        simp only [order_placed.l1]; rw [if_pos (by omega), if_pos (by omega), if_pos (by omega), if_pos c, if_pos (by omega), c1, if_pos rfl, w64 (by omega) (by omega)]; rfl
    · rw [show doneZ s (rd_T65 ops i :: ops.drop (i + 1)) i = doneZ s (ops.drop (i + 1)) (i + 1) by rw [doneZ, if_neg (by rintro ⟨a, _⟩; exact c a)]]
      refine Ev.step (fun k => ?_) (ih s ops (i + 1) (by omega) (by omega) hl hs)
      simp only [order_placed.l1]; rw [if_pos (by omega), if_pos (by omega), if_pos (by omega), if_neg c, w64 (by omega) (by omega)]; rfl
theorem order_placed_l0 (ops : List S65) (hl : ops.length ≤ 1000) (d : Nat) : ∀ (s : List Bool) (o : List Int) (i : Nat), o.length - i = d → i ≤ o.length → o.length ≤ 1000 → s.length = ops.length →
    Ev (fun k => order_placed.l0 k ops s o (o.length : Int) i) (placeZ ops (o.drop i) s) := by
  induction d with
  | zero =>
    intro s o i hd hi ho hs
    rw [List.drop_of_length_le (by omega), placeZ]
    refine Ev.step (fun k => ?_) (order_placed_l1 _ s ops 0 rfl (by omega) hl hs)
    simp only [order_placed.l0]; rw [if_neg (by omega)]; rfl
  | succ d ih =>
    intro s o i hd hi ho hs
    rw [rd_drop o i (by omega), placeZ]
    by_cases c : rd o i < 0
    · rw [if_neg (by omega)]
      refine Ev.step (f := fun _ => some 2) (fun k => ?_) (Ev.now _)
      simp only [order_placed.l0]; rw [if_pos (by omega), if_pos (by omega), if_pos (by omega), if_pos c]
    by_cases c1 : rd o i ≥ (ops.length : Int)
    · rw [if_neg (by omega)]
      refine Ev.step (f := fun _ => some 2) (fun k => ?_) (Ev.now _)
      simp only [order_placed.l0]; rw [if_pos (by omega), if_pos (by omega), if_pos (by omega), if_neg c, if_pos c1]
    cases c2 : rdOf false s (rd o i) with
    | true =>
      rw [if_neg (by simp)]
      refine Ev.step (f := fun _ => some 2) (fun k => ?_) (Ev.now _)
      simp only [order_placed.l0]; rw [if_pos (by omega), if_pos (by omega), if_pos (by omega), if_neg c, if_neg c1, if_pos (by omega), if_pos (by omega), c2, if_pos rfl]
    | false =>
      rw [if_pos ⟨by omega, by omega, rfl⟩]
      refine Ev.step (fun k => ?_) (ih (s.set (rd o i).toNat true) o (i + 1) (by omega) (by omega) ho (by simpa using hs))
      simp only [order_placed.l0]; rw [if_pos (by omega), if_pos (by omega), if_pos (by omega), if_neg c, if_neg c1, if_pos (by omega), if_pos (by omega), c2, if_neg (by simp), w64 (by omega) (by omega)]; rfl
theorem order_placed_ev (ops : List S65) (o : List Int) (hl : ops.length ≤ 1000) (ho : o.length ≤ 1000) : Ev (fun k => order_placed.f k ops o) (placeZ ops o (List.replicate ops.length false)) := by
  refine Ev.congr (fun k => ?_) (order_placed_l0 ops hl _ (List.replicate ops.length false) o 0 rfl (by omega) ho (by simp))
  unfold order_placed.f
  rw [if_pos (by omega), if_pos (by omega)]; simp
theorem placeZ_in (ops : List S65) : ∀ (o : List Int) (s : List Bool), placeZ ops o s ≠ 2 → ∀ i ∈ o, 0 ≤ i ∧ i < (ops.length : Int)
  | [], _, _, i, hi => by simp at hi
  | x :: o, s, h, i, hi => by
    rw [placeZ] at h
    split at h
    · rename_i c
      rcases List.mem_cons.mp hi with rfl | hi
      · exact ⟨c.1, c.2.1⟩
      · exact placeZ_in ops o _ h i hi
    · exact absurd rfl h
def befZ (a b : S65) : Bool := if a.f3 = true then decide (a.f6 < b.f5) else false
/-- None of these is behind one that it must be ahead of. -/
def innerZ (ops : List S65) (a : S65) : List Int → Bool
  | [] => true
  | j :: r => if befZ a (rd_T65 ops j) = true then false else innerZ ops a r
def timeZ (ops : List S65) : List Int → List Int → Bool
  | _, [] => true
  | pre, x :: r => if innerZ ops (rd_T65 ops x) pre = true then timeZ ops (pre ++ [x]) r else false
theorem hist_bef (a b : S65) : hist_Before.f a.f0 a.f1 a.f2 a.f3 a.f4 a.f5 a.f6 b.f0 b.f1 b.f2 b.f3 b.f4 b.f5 b.f6 = some (befZ a b) := by
  unfold hist_Before.f befZ; split <;> rfl
theorem timely_l1 (ops : List S65) (o : List Int) (i : Nat) (hi : i < o.length) (ho : o.length ≤ 1000) (hx : ∀ q_ ∈ o, 0 ≤ q_ ∧ q_ < (ops.length : Int)) (r : Bool)
    (h0 : Ev (fun k => order_timely.l0 k ops o (o.length : Int) ((i + 1 : Nat) : Int)) r) (d : Nat) : ∀ (j : Nat), i - j = d → j ≤ i →
    Ev (fun k => order_timely.l1 k ops o i (o.length : Int) i i j) (if innerZ ops (rd_T65 ops (rd o i)) ((o.take i).drop j) = true then r else false) := by
  induction d with
  | zero =>
    intro j hd hj
    rw [List.drop_of_length_le (by rw [List.length_take]; omega), innerZ, if_pos rfl]
    refine Ev.step (fun k => ?_) h0
    simp only [order_timely.l1]; rw [if_neg (by omega), w64 (by omega) (by omega)]; rfl
  | succ d ih =>
    intro j hd hj
    have e : (o.take i).drop j = rd o j :: (o.take i).drop (j + 1) := by
      rw [rd_drop (o.take i) j (by rw [List.length_take]; omega)]
      congr 1
      simp [rd, List.getElem?_take, show j < i by omega]
    have h1 := hx _ (rd_mem o i hi)
    have h2 := hx _ (rd_mem o j (by omega))
    rw [e, innerZ]
    have hb := hist_bef (rd_T65 ops (rd o i)) (rd_T65 ops (rd o j))
    by_cases c : befZ (rd_T65 ops (rd o i)) (rd_T65 ops (rd o j)) = true
    · rw [if_pos c, if_neg (by simp)]
      refine Ev.step (f := fun _ => some false) (fun k => ?_) (Ev.now _)
      simp only [order_timely.l1]; rw [if_pos (by omega), if_pos (by omega), if_pos (by omega), if_pos (by omega), if_pos (by omega), if_pos (by omega), if_pos (by omega), if_pos (by omega), if_pos (by omega), hb, c]; rfl
    · rw [if_neg c]
      refine Ev.step (fun k => ?_) (ih (j + 1) (by omega) (by omega))
      simp only [order_timely.l1]; rw [if_pos (by omega), if_pos (by omega), if_pos (by omega), if_pos (by omega), if_pos (by omega), if_pos (by omega), if_pos (by omega), if_pos (by omega), if_pos (by omega), hb, Option.bind_some, if_neg c, w64 (by omega) (by omega)]; rfl
theorem timely_l0 (ops : List S65) (o : List Int) (ho : o.length ≤ 1000) (hx : ∀ q_ ∈ o, 0 ≤ q_ ∧ q_ < (ops.length : Int)) (d : Nat) : ∀ (i : Nat), o.length - i = d → i ≤ o.length →
    Ev (fun k => order_timely.l0 k ops o (o.length : Int) i) (timeZ ops (o.take i) (o.drop i)) := by
  induction d with
  | zero =>
    intro i hd hi
    rw [List.drop_of_length_le (by omega), timeZ]
    refine Ev.step (f := fun _ => some true) (fun k => ?_) (Ev.now _)
    simp only [order_timely.l0]; rw [if_neg (by omega)]
  | succ d ih =>
    intro i hd hi
    have e : o.take i ++ [rd o i] = o.take (i + 1) := by
      rw [List.take_add_one, List.getElem?_eq_getElem (by omega)]; simp [rd, List.getElem?_eq_getElem (show i < o.length by omega)]
    rw [rd_drop o i (by omega), timeZ, e]
    have h := timely_l1 ops o i (by omega) ho hx _ (ih (i + 1) (by omega) (by omega)) _ 0 rfl (by omega)
    rw [List.drop_zero] at h
    refine Ev.step (fun k => ?_) h
    simp only [order_timely.l0]; rw [if_pos (by omega)]; rfl
theorem order_timely_ev (ops : List S65) (o : List Int) (ho : o.length ≤ 1000) (hx : ∀ q_ ∈ o, 0 ≤ q_ ∧ q_ < (ops.length : Int)) : Ev (fun k => order_timely.f k ops o) (timeZ ops [] o) := by
  have h := timely_l0 ops o ho hx _ 0 rfl (by omega)
  exact h
/-- What order.Check answers. -/
def ordC (L : List S36) (fuel : Int) (ops : List S65) (o : List Int) : Int :=
  if (thru L).2.2 ≠ 0 then (thru L).2.2 else if fuel < 0 ∨ 10000 < fuel then 2 else if 64 < ops.length then 5
  else if placeZ ops o (List.replicate ops.length false) ≠ 0 then placeZ ops o (List.replicate ops.length false)
  else if timeZ ops [] o = false then 17 else ordZ L ops fuel o [0, 0, 0, 0]
theorem ord_Check (A0 A2 A3 : Option Addr) (c0 c2 c3 : Nat) (L : List S36) (fuel : Int) (ops : List S65) (o : List Int) (w : World) (hC0 : Kd.C k36 w A0 L.length L) (hc0 : L.length ≤ c0) (hL : L.length ≤ 300) (hC2 : Kd.C k65 w A2 ops.length ops) (hc2 : ops.length ≤ c2) (hC3 : Kd.C (Kd.int .i64) w A3 o.length o) (hc3 : o.length ≤ c3) (ho : o.length ≤ 1000) :
    Calls Try.prog 33 #[.slice A0 L.length c0, .int .i64 fuel, .slice A2 ops.length c2, .slice A3 o.length c3] w fun e w' => e = .returned (.int .i64 (ordC L fuel ops o)) ∧ Below w.heap.size w w' := by
  unfold ordC
  by_cases ht : (thru L).2.2 = 0
  rotate_left
  · rw [if_pos ht]; exact ord_new A0 A2 A3 c0 c2 c3 L fuel ops o w hC0 hc0 hL hC2 hc2 hC3 hc3 ht
  rw [if_neg (by simpa using ht)]
  by_cases hf : fuel < 0
  · rw [if_pos (.inl hf)]; exact ord_fuel0 A0 A2 A3 c0 c2 c3 L fuel ops o w hC0 hc0 hL hC2 hc2 hC3 hc3 ht hf
  by_cases hf2 : 10000 < fuel
  · rw [if_pos (.inr hf2)]; exact ord_fuel1 A0 A2 A3 c0 c2 c3 L fuel ops o w hC0 hc0 hL hC2 hc2 hC3 hc3 ht hf2
  rw [if_neg (by omega)]
  by_cases hn : 64 < ops.length
  · rw [if_pos hn]; exact ord_big A0 A2 A3 c0 c2 c3 L fuel ops o w hC0 hc0 hL hC2 hc2 hC3 hc3 ht (by omega) hn
  rw [if_neg hn]
  obtain ⟨K1, h1⟩ := order_placed_ev ops o (by omega) ho
  by_cases hp : placeZ ops o (List.replicate ops.length false) = 0
  rotate_left
  · rw [if_pos hp]; exact ord_place A0 A2 A3 c0 c2 c3 L fuel ops o w hC0 hc0 hL hC2 hc2 hC3 hc3 ht (by omega) (by omega) K1 _ (h1 K1 (Nat.le_refl _)) hp
  rw [if_neg (by simpa using hp)]
  have hx := placeZ_in ops o _ (by rw [hp]; decide)
  obtain ⟨K2, h2⟩ := order_timely_ev ops o ho hx
  rw [hp] at h1
  cases hq : timeZ ops [] o with
  | false => rw [if_pos rfl]; rw [hq] at h2; exact ord_late A0 A2 A3 c0 c2 c3 L fuel ops o w hC0 hc0 hL hC2 hc2 hC3 hc3 ht (by omega) (by omega) (K1 + K2) (h1 _ (by omega)) (h2 _ (by omega))
  | true => rw [if_neg (by simp)]; rw [hq] at h2; exact ord_go A0 A2 A3 c0 c2 c3 L fuel ops o w hC0 hc0 hL hC2 hc2 hC3 hc3 ht (by omega) (by omega) ho (K1 + K2) (h1 _ (by omega)) (h2 _ (by omega)) hx

end Go.Proofs.Ytddkoimaghcbeaa.PVmSteps
