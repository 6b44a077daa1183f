/- A part of what the law LinTells stands on, only as far as it is needed (the words and walks were printed or written in this seat; this text was cut by a program of this session, wip/bin/trim.py). No condition beyond what each theorem says. -/
import Derived.Test.YtddkoimaghcbeaaZLTPVmStepsx0
import Derived.Test.YtddkoimaghcbeaaZLTPVmStepsx2
import Derived.Test.YtddkoimaghcbeaaZLTPVmStepsx3
import Derived.Test.YtddkoimaghcbeaaZLTPVmStepsx4
import Derived.Test.YtddkoimaghcbeaaZLTPVmStepsx5
import Derived.Test.YtddkoimaghcbeaaZLTPVmStepsx6
namespace Go.Proofs.Ytddkoimaghcbeaa.PVmSteps
open Go.RowKit Go.Proofs.YtddkoimaghcbeaaW.PrintWords Go.Proofs.YtddkoimaghcbeaaW.PrintLast Go.Proofs.YtddkoimaghcbeaaW.PrintMore
set_option linter.unusedVariables false
set_option linter.unusedSimpArgs false
theorem w64 {i : Int} (h : -9223372036854775808 ≤ i) (h' : i ≤ 9223372036854775807) : wrap64 i = i := by unfold wrap64; omega
theorem wf_i64 {a : Int} (h : (Lit.int .i64 a).wf = true) : -9223372036854775808 ≤ a ∧ a ≤ 9223372036854775807 := by
  simp [Lit.wf, IntKind.min, IntKind.max, IntKind.signed, IntKind.bits] at h; omega
theorem wu64 (n : Int) : IntKind.u64.wrap n = n % 18446744073709551616 := by simp [IntKind.wrap, IntKind.bits, IntKind.signed]
theorem rd_drop (l : List Int) (i : Nat) (h : i < l.length) : l.drop i = rd l i :: l.drop (i + 1) := by
  rw [List.drop_eq_getElem_cons h]; congr 1; simp [rd, List.getElem?_eq_getElem h]
theorem rd_mem (l : List Int) (i : Nat) (h : i < l.length) : rd l i ∈ l := by
  simp [rd, List.getElem?_eq_getElem h]
def offT : List Int := [0, 1, 1, 2, 0, 1, 0, 0, 2, 2, 2, 2, 2, 2, 2, 1, 0, 1, 1, 0]
def onT : List Int := [1, 0, 2, 2, 1, 0, 1, 1, 1, 1, 1, 1, 1, 1, 1, 1, 0, 0, 0, 0]
/-- How many numbers an instruction takes off, puts on. -/
def takesZ (a : Int) : Int := if 0 ≤ a ∧ a ≤ 19 then rd offT a else -1
def putsZ (a : Int) : Int := if 0 ≤ a ∧ a ≤ 19 then rd onT a else -1
theorem code_Takes_ev (a : Int) : Ev (fun k => code_Takes.f k a) (takesZ a) := by
  by_cases h : 0 ≤ a ∧ a ≤ 19
  · obtain ⟨n, rfl⟩ := Int.eq_ofNat_of_zero_le h.1
    have key : ∀ n : Nat, n < 20 → code_Takes.f 3 (n : Int) = some (takesZ n) := by decide +kernel
    exact Ev.of (code_Takes.mono _) (key n (by omega))
  · refine Ev.of (code_Takes.mono _) (k := 2) ?_
    unfold takesZ
    rw [if_neg h]
    unfold code_Takes.f
    rw [if_neg (by omega), if_neg (by omega), if_neg (by omega), if_neg (by omega), if_neg (by omega), show (a == 19) = false from beq_eq_false_iff_ne.mpr (by omega)]
    simp only [code_Takes.j0, show ¬ a = 1 from by omega, show ¬ a = 2 from by omega, show ¬ a = 5 from by omega, show ¬ a = 15 from by omega, show ¬ a = 17 from by omega, if_false, show (a == 18) = false from beq_eq_false_iff_ne.mpr (by omega)]
    simp [code_Takes.j1, show ¬ a = 3 from by omega, show ¬ a = 8 from by omega, show ¬ a = 9 from by omega, show ¬ a = 10 from by omega, show ¬ a = 11 from by omega, show ¬ a = 12 from by omega, show ¬ a = 13 from by omega, show ¬ a = 14 from by omega]
theorem code_Puts_ev (a : Int) : Ev (fun k => code_Puts.f k a) (putsZ a) := by
  by_cases h : 0 ≤ a ∧ a ≤ 19
  · obtain ⟨n, rfl⟩ := Int.eq_ofNat_of_zero_le h.1
    have key : ∀ n : Nat, n < 20 → code_Puts.f 3 (n : Int) = some (putsZ n) := by decide +kernel
    exact Ev.of (code_Puts.mono _) (key n (by omega))
  · refine Ev.of (code_Puts.mono _) (k := 2) ?_
    unfold putsZ
    rw [if_neg h]
    unfold code_Puts.f
    rw [if_neg (by omega), if_neg (by omega), if_neg (by omega), if_neg (by omega), if_neg (by omega), show (a == 19) = false from beq_eq_false_iff_ne.mpr (by omega)]
    simp only [code_Puts.j0, show ¬ a = 2 from by omega, if_false, show (a == 3) = false from beq_eq_false_iff_ne.mpr (by omega)]
    by_cases c : a < 0
    · simp [code_Puts.j1, c]
    · simp [code_Puts.j1, c, show a > 19 from by omega]
/-- May an instruction be, in code of so many? -/
def canZ (n op N : Int) : Bool := if op = 0 then true else if op = 4 ∨ op = 5 then decide (0 ≤ N ∧ N < 4) else if op = 16 ∨ op = 17 then decide (0 ≤ N ∧ N < n) else decide (0 ≤ takesZ op ∧ N = 0)
/-- Where one goes on behind a place. -/
def nextZ (op N at_ : Int) : List Int := if op = 18 ∨ op = 19 then [] else if op = 16 then [N] else if op = 17 then [at_ + 1, N] else [at_ + 1]
/-- Places get a depth. -/
def leadsZ (n t : Int) : List Int → List Int → Int × List Int
  | [], dep => (0, dep)
  | q_ :: l, dep => if q_ = n then (6, dep) else if rd dep q_ < 0 then leadsZ n t l (dep.set q_.toNat t) else if rd dep q_ = t then leadsZ n t l dep else (16, dep)
/-- Through one place. -/
def passZ (L : List S36) (at_ : Int) (dep : List Int) : Int × List Int :=
  if rd dep at_ - takesZ (rd_T36 L at_).f0 < 0 then (3, dep)
  else if 8 < rd dep at_ - takesZ (rd_T36 L at_).f0 + putsZ (rd_T36 L at_).f0 then (11, dep)
  else leadsZ L.length (rd dep at_ - takesZ (rd_T36 L at_).f0 + putsZ (rd_T36 L at_).f0) (nextZ (rd_T36 L at_).f0 (rd_T36 L at_).f1 at_) dep
/-- Through all places, the least first. -/
def thruZ (L : List S36) : Nat → List Int → List Bool → Nat → List Int × Int × Int
  | 0, _, _, _ => ([], 0, 0)
  | f + 1, dep, done, at_ => if at_ < L.length then
      (if done.getD at_ false = true ∨ rd dep at_ < 0 then thruZ L f dep done (at_ + 1)
       else if (passZ L at_ dep).1 = 0 then thruZ L f (passZ L at_ dep).2 (done.set at_ true) 0 else ([], (at_ : Int), (passZ L at_ dep).1))
    else (dep, 0, 0)
/-- The first instruction that can't be. -/
def firstBad (n : Int) : List S36 → Nat → Option Nat
  | [], _ => none
  | x :: l, i => if canZ n x.f0 x.f1 = true then firstBad n l (i + 1) else some i
def thru (L : List S36) : List Int × Int × Int :=
  if L.length < 1 ∨ 200 < L.length then ([], 0, 5) else
    match firstBad L.length L 0 with
    | some i => ([], (i : Int), 15)
    | none => thruZ L ((L.length + 1) * (L.length + 2)) ((List.replicate L.length (-1)).set 0 0) (List.replicate L.length false) 0
theorem takesZ_bd (a : Int) : -1 ≤ takesZ a ∧ takesZ a ≤ 2 := by
  unfold takesZ
  split
  · rename_i h
    obtain ⟨n, rfl⟩ := Int.eq_ofNat_of_zero_le h.1
    have key : ∀ n : Nat, n < 20 → -1 ≤ rd offT (n : Int) ∧ rd offT (n : Int) ≤ 2 := by decide +kernel
    exact key n (by omega)
  · omega
theorem putsZ_bd (a : Int) : -1 ≤ putsZ a ∧ putsZ a ≤ 2 := by
  unfold putsZ
  split
  · rename_i h
    obtain ⟨n, rfl⟩ := Int.eq_ofNat_of_zero_le h.1
    have key : ∀ n : Nat, n < 20 → -1 ≤ rd onT (n : Int) ∧ rd onT (n : Int) ≤ 2 := by decide +kernel
    exact key n (by omega)
  · omega
theorem code_can_ev (op N n : Int) : Ev (fun k => code_can.f k op N n) (canZ n op N) := by
  have fin : Ev (fun k => (code_Takes.f k op).bind fun t => if t ≥ 0 then some (N == 0) else some false) (decide (0 ≤ takesZ op ∧ N = 0)) := by
    refine Ev.bind (code_Takes_ev op) ?_
    by_cases h : takesZ op ≥ 0
    · refine Ev.congr (fun k => if_pos h) ?_
      rw [show (decide (0 ≤ takesZ op ∧ N = 0)) = (N == 0) from by by_cases c : N = 0 <;> simp [c, h]]
      exact Ev.now _
    · refine Ev.congr (fun k => if_neg h) ?_
      rw [decide_eq_false (by omega)]; exact Ev.now _
  have j : ∀ b : Bool, b = decide (op = 4 ∨ op = 5) → op ≠ 0 → Ev (fun k => code_can.j0 k n op b op N) (canZ n op N) := by
    intro b hb h0
    unfold canZ
    rw [if_neg h0]
    by_cases c : op = 4 ∨ op = 5
    · rw [if_pos c]
      rw [decide_eq_true c] at hb; subst hb
      refine Ev.step (f := fun _ => some (decide (0 ≤ N ∧ N < 4))) (fun k => ?_) (Ev.now _)
      simp only [code_can.j0, if_true]
      by_cases c1 : N ≥ 0
      · rw [if_pos c1]; congr 1; rw [decide_eq_decide]; omega
      · rw [if_neg c1, decide_eq_false (by omega)]
    · rw [if_neg c]
      rw [decide_eq_false c] at hb; subst hb
      by_cases d : op = 16 ∨ op = 17
      · rw [if_pos d]
        refine Ev.step (f := fun _ => some (decide (0 ≤ N ∧ N < n))) (fun k => ?_) (Ev.now _)
        have e : (if N ≥ 0 then some (decide (N < n)) else some false) = some (decide (0 ≤ N ∧ N < n)) := by
          by_cases c1 : N ≥ 0
          · rw [if_pos c1]; congr 1; rw [decide_eq_decide]; omega
          · rw [if_neg c1, decide_eq_false (by omega)]
        simp only [code_can.j0]
        rw [if_neg (by simp), e]
        by_cases d1 : op = 16
        · rw [if_pos d1]
        · rw [if_neg d1, if_pos (by omega)]
      · rw [if_neg d]
        refine Ev.step (fun k => ?_) fin
        simp only [code_can.j0]
        rw [if_neg (by simp), if_neg (by omega), if_neg (by omega)]
  by_cases h0 : op = 0
  · refine Ev.congr (fun k => ?_) (Ev.now _)
    unfold code_can.f canZ; rw [if_pos h0, if_pos h0]
  · by_cases h4 : op = 4
    · exact Ev.congr (fun k => by unfold code_can.f; rw [if_neg h0, if_pos h4]) (j (op == 4) (by rw [decide_eq_true (.inl h4), h4]; rfl) h0)
    · exact Ev.congr (fun k => by unfold code_can.f; rw [if_neg h0, if_neg h4]) (j (op == 5) (by by_cases h5 : op = 5 <;> simp [h4, h5]) h0)
theorem code_next_ev (op N at_ : Int) (h0 : 0 ≤ at_) (h1 : at_ ≤ 1000) : Ev (fun k => code_next.f k op N at_) (nextZ op N at_) := by
  have w := w64 (i := at_ + 1) (by omega) (by omega)
  have j : ∀ b : Bool, b = decide (op = 18 ∨ op = 19) → Ev (fun k => code_next.j0 k at_ op b op N) (nextZ op N at_) := by
    intro b hb
    refine Ev.step (f := fun _ => some (nextZ op N at_)) (fun k => ?_) (Ev.now _)
    simp only [code_next.j0]
    unfold nextZ
    rw [w]
    by_cases c : op = 18 ∨ op = 19
    · rw [if_pos c, if_pos (by rw [hb]; exact decide_eq_true c)]
    · rw [if_neg c, if_neg (by rw [hb, decide_eq_false c]; simp)]
      by_cases c1 : op = 16
      · rw [if_pos c1, if_pos c1]
      · rw [if_neg c1, if_neg c1]
        by_cases c2 : op = 17
        · rw [if_pos c2, if_pos c2]
        · rw [if_neg c2, if_neg c2]
  by_cases h18 : op = 18
  · exact Ev.congr (fun k => by unfold code_next.f; rw [if_pos h18]) (j (op == 18) (by rw [decide_eq_true (.inl h18), h18]; rfl))
  · exact Ev.congr (fun k => by unfold code_next.f; rw [if_neg h18]) (j (op == 19) (by by_cases h : op = 19 <;> simp [h18, h]))
theorem code_pass_l0 (d : Nat) : ∀ (L : List S36) (dep : List Int) (t : Int) (l : List Int) (i : Nat), l.length - i = d → i ≤ l.length → l.length ≤ 2 → dep.length = L.length →
    (∀ q_ ∈ l, 0 ≤ q_ ∧ q_ ≤ L.length) → Ev (fun k => code_pass.l0 k L dep t l (l.length : Int) i) (leadsZ L.length t (l.drop i) dep) := by
  induction d with
  | zero =>
    intro L dep t l i hd hi hl hdl hto
    refine Ev.step (f := fun _ => some (0, dep)) (fun k => ?_) (by rw [List.drop_of_length_le (by omega)]; exact Ev.now _)
    simp only [code_pass.l0]; rw [if_neg (by omega)]
  | succ d ih =>
    intro L dep t l i hd hi hl hdl hto
    have e : l.drop i = rd l i :: l.drop (i + 1) := rd_drop l i (by omega)
    have ht := hto _ (rd_mem l i (by omega))
    rw [e, leadsZ]
    by_cases c : rd l i = (L.length : Int)
    · rw [if_pos c]
      refine Ev.step (f := fun _ => some (6, dep)) (fun k => ?_) (Ev.now _)
      simp only [code_pass.l0]; rw [if_pos (by omega), if_pos (by omega), if_pos (by omega), if_pos c]
    · rw [if_neg c]
      by_cases c1 : rd dep (rd l i) < 0
      · rw [if_pos c1]
        refine Ev.step (fun k => ?_) (ih L (dep.set (rd l i).toNat t) t l (i + 1) (by omega) (by omega) hl (by simpa using hdl) hto)
        simp only [code_pass.l0]; rw [if_pos (by omega), if_pos (by omega), if_pos (by omega), if_neg c, if_pos (by omega), if_pos (by omega), if_pos c1, w64 (by omega) (by omega)]; rfl
      · rw [if_neg c1]
        by_cases c2 : rd dep (rd l i) = t
        · rw [if_pos c2]
          refine Ev.step (fun k => ?_) (ih L dep t l (i + 1) (by omega) (by omega) hl hdl hto)
          simp only [code_pass.l0]; rw [if_pos (by omega), if_pos (by omega), if_pos (by omega), if_neg c, if_pos (by omega), if_pos (by omega), if_neg c1, if_pos c2, w64 (by omega) (by omega)]; rfl
        · rw [if_neg c2]
          refine Ev.step (f := fun _ => some (16, dep)) (fun k => ?_) (Ev.now _)
          simp only [code_pass.l0]; rw [if_pos (by omega), if_pos (by omega), if_pos (by omega), if_neg c, if_pos (by omega), if_pos (by omega), if_neg c1, if_neg c2]
theorem nextZ_len (op N at_ : Int) : (nextZ op N at_).length ≤ 2 := by
  unfold nextZ
  repeat' split
  all_goals simp
theorem nextZ_bd (op N at_ : Int) (n : Nat) (h : canZ n op N = true) (h0 : 0 ≤ at_) (h1 : at_ < n) : ∀ q_ ∈ nextZ op N at_, 0 ≤ q_ ∧ q_ ≤ n := by
  intro q_ ht
  unfold nextZ at ht
  unfold canZ at h
  split at ht
  · simp at ht
  · split at ht
    · rename_i c
      rw [if_neg (by omega), if_neg (by omega), if_pos (by omega)] at h
      have := of_decide_eq_true h
      have : q_ = N := by simpa using ht
      omega
    · split at ht
      · rename_i c
        rw [if_neg (by omega), if_neg (by omega), if_pos (by omega)] at h
        have := of_decide_eq_true h
        have : q_ = at_ + 1 ∨ q_ = N := by simpa using ht
        omega
      · have : q_ = at_ + 1 := by simpa using ht
        omega
theorem code_pass_ev (L : List S36) (at_ : Nat) (dep : List Int) (ha : at_ < L.length) (hl : L.length ≤ 300) (hd : dep.length = L.length) (hr : -1 ≤ rd dep at_ ∧ rd dep at_ ≤ 8)
    (hc : canZ L.length (rd_T36 L at_).f0 (rd_T36 L at_).f1 = true) : Ev (fun k => code_pass.f k L at_ dep) (passZ L at_ dep) := by
  have t := takesZ_bd (rd_T36 L at_).f0
  have p := putsZ_bd (rd_T36 L at_).f0
  unfold passZ
  refine Ev.congr (fun k => by unfold code_pass.f; rw [if_pos (by omega), if_pos (by omega), if_pos (by omega)]) ?_
  refine Ev.bind (code_Takes_ev _) ?_
  rw [w64 (i := rd dep at_ - takesZ (rd_T36 L at_).f0) (by omega) (by omega)]
  by_cases c : rd dep at_ - takesZ (rd_T36 L at_).f0 < 0
  · rw [if_pos c]; exact Ev.congr (fun k => if_pos c) (Ev.now _)
  · rw [if_neg c]; refine Ev.congr (fun k => if_neg c) ?_
    refine Ev.bind (code_Puts_ev _) ?_
    rw [w64 (by omega) (by omega)]
    by_cases c1 : 8 < rd dep at_ - takesZ (rd_T36 L at_).f0 + putsZ (rd_T36 L at_).f0
    · rw [if_pos c1]; exact Ev.congr (fun k => if_pos c1) (Ev.now _)
    · rw [if_neg c1]; refine Ev.congr (fun k => if_neg (by omega)) ?_
      refine Ev.bind (code_next_ev _ _ at_ (by omega) (by omega)) ?_
      have g := code_pass_l0 _ L dep (rd dep at_ - takesZ (rd_T36 L at_).f0 + putsZ (rd_T36 L at_).f0) (nextZ (rd_T36 L at_).f0 (rd_T36 L at_).f1 at_) 0 rfl (by omega) (nextZ_len _ _ _) hd (nextZ_bd _ _ _ L.length hc (by omega) (by omega))
      rw [List.drop_zero] at g
      exact g
/-- What a walk through code keeps. -/
structure Small (L : List S36) (dep : List Int) (done : List Bool) : Prop where
  dl : dep.length = L.length
  el : done.length = L.length
  lo : ∀ i, i < L.length → -1 ≤ rd dep i ∧ rd dep i ≤ 8
theorem rd_set (l : List Int) (i j : Nat) (v : Int) (h : i < l.length) : rd (l.set i v) j = if j = i then v else rd l j := by
  simp only [rd, Int.toNat_natCast, List.getD_eq_getElem?_getD]
  by_cases c : j = i
  · subst c; rw [if_pos rfl, List.getElem?_set_self h]; rfl
  · rw [if_neg c, List.getElem?_set_ne (by omega)]
theorem leadsZ_keeps (n : Nat) (t : Int) (h0 : 0 ≤ t) (h8 : t ≤ 8) : ∀ (l : List Int) (dep : List Int), dep.length = n → (∀ q_ ∈ l, 0 ≤ q_ ∧ q_ ≤ n) → (∀ i, i < n → -1 ≤ rd dep i ∧ rd dep i ≤ 8) →
    (leadsZ n t l dep).2.length = n ∧ (∀ i, i < n → -1 ≤ rd (leadsZ n t l dep).2 i ∧ rd (leadsZ n t l dep).2 i ≤ 8) ∧ (∀ i, i < n → 0 ≤ rd dep i → rd (leadsZ n t l dep).2 i = rd dep i) ∧
    ((leadsZ n t l dep).1 = 0 → ∀ q_ ∈ l, q_ < n ∧ rd (leadsZ n t l dep).2 q_ = t) := by
  intro l
  induction l with
  | nil => intro dep hd _ hr; exact ⟨hd, hr, fun _ _ _ => rfl, fun _ q_ hq => by simp at hq⟩
  | cons a l ih =>
    intro dep hd hq hr
    have ha := hq a (by simp)
    have hq' : ∀ q_ ∈ l, 0 ≤ q_ ∧ q_ ≤ n := fun q_ h => hq q_ (by simp [h])
    unfold leadsZ
    by_cases c : a = (n : Int)
    · rw [if_pos c]; exact ⟨hd, hr, fun _ _ _ => rfl, fun h => by simp at h⟩
    · rw [if_neg c]
      obtain ⟨m, rfl⟩ := Int.eq_ofNat_of_zero_le ha.1
      by_cases c1 : rd dep (m : Int) < 0
      · rw [if_pos c1]
        have hs (j : Nat) := rd_set dep m j t (by omega)
        obtain ⟨i1, i2, i3, i4⟩ := ih (dep.set m t) (by simpa using hd) hq' (fun i hi => by
          rw [hs]
          split
          · omega
          · exact hr i hi)
        rw [Int.toNat_natCast]
        refine ⟨i1, i2, fun i hi h => ?_, fun h q_ hq_ => ?_⟩
        · rw [i3 i hi (by rw [hs]; split <;> omega), hs, if_neg (by intro e; subst e; omega)]
        · rcases List.mem_cons.mp hq_ with rfl | hq_
          · exact ⟨by omega, by rw [i3 m (by omega) (by rw [hs, if_pos rfl]; exact h0), hs, if_pos rfl]⟩
          · exact i4 h q_ hq_
      · rw [if_neg c1]
        by_cases c2 : rd dep (m : Int) = t
        · rw [if_pos c2]
          obtain ⟨i1, i2, i3, i4⟩ := ih dep hd hq' hr
          refine ⟨i1, i2, i3, fun h q_ hq_ => ?_⟩
          rcases List.mem_cons.mp hq_ with rfl | hq_
          · exact ⟨by omega, by rw [i3 m (by omega) (by omega), c2]⟩
          · exact i4 h q_ hq_
        · rw [if_neg c2]; exact ⟨hd, hr, fun _ _ _ => rfl, fun h => by simp at h⟩
/-- A place that one has gone through. -/
def Closed (L : List S36) (dep : List Int) (i : Nat) : Prop :=
  0 ≤ rd dep i ∧ takesZ (rd_T36 L i).f0 ≤ rd dep i ∧ rd dep i - takesZ (rd_T36 L i).f0 + putsZ (rd_T36 L i).f0 ≤ 8 ∧
  ∀ q_ ∈ nextZ (rd_T36 L i).f0 (rd_T36 L i).f1 i, 0 ≤ q_ ∧ q_ < L.length ∧ rd dep q_ = rd dep i - takesZ (rd_T36 L i).f0 + putsZ (rd_T36 L i).f0
theorem putsZ_or (a : Int) : 0 ≤ a ∧ a ≤ 19 → 0 ≤ putsZ a ∧ 0 ≤ takesZ a := by
  intro h
  unfold putsZ takesZ
  rw [if_pos h, if_pos h]
  obtain ⟨n, rfl⟩ := Int.eq_ofNat_of_zero_le h.1
  have key : ∀ n : Nat, n < 20 → 0 ≤ rd onT (n : Int) ∧ 0 ≤ rd offT (n : Int) := by decide +kernel
  exact key n (by omega)
theorem canZ_op (n op N : Int) (h : canZ n op N = true) : 0 ≤ op ∧ op ≤ 19 := by
  unfold canZ at h
  split at h
  · omega
  · split at h
    · omega
    · split at h
      · omega
      · have := of_decide_eq_true h
        unfold takesZ at this
        split at this
        · omega
        · omega
theorem passZ_keeps (L : List S36) (at_ : Nat) (dep : List Int) (ha : at_ < L.length) (hd : dep.length = L.length) (hr : ∀ i, i < L.length → -1 ≤ rd dep i ∧ rd dep i ≤ 8)
    (hc : canZ L.length (rd_T36 L at_).f0 (rd_T36 L at_).f1 = true) (h0 : 0 ≤ rd dep at_) :
    (passZ L at_ dep).2.length = L.length ∧ (∀ i, i < L.length → -1 ≤ rd (passZ L at_ dep).2 i ∧ rd (passZ L at_ dep).2 i ≤ 8) ∧ (∀ i, i < L.length → 0 ≤ rd dep i → rd (passZ L at_ dep).2 i = rd dep i) ∧
    ((passZ L at_ dep).1 = 0 → Closed L (passZ L at_ dep).2 at_) := by
  have p := putsZ_or _ (canZ_op _ _ _ hc)
  unfold passZ
  by_cases c : rd dep at_ - takesZ (rd_T36 L at_).f0 < 0
  · rw [if_pos c]; exact ⟨hd, hr, fun _ _ _ => rfl, fun h => by simp at h⟩
  · rw [if_neg c]
    by_cases c1 : 8 < rd dep at_ - takesZ (rd_T36 L at_).f0 + putsZ (rd_T36 L at_).f0
    · rw [if_pos c1]; exact ⟨hd, hr, fun _ _ _ => rfl, fun h => by simp at h⟩
    · rw [if_neg c1]
      have bd := nextZ_bd _ _ at_ L.length hc (by omega) (by omega)
      obtain ⟨i1, i2, i3, i4⟩ := leadsZ_keeps L.length (rd dep at_ - takesZ (rd_T36 L at_).f0 + putsZ (rd_T36 L at_).f0) (by omega) (by omega) (nextZ (rd_T36 L at_).f0 (rd_T36 L at_).f1 at_) dep hd bd hr
      refine ⟨i1, i2, i3, fun h => ?_⟩
      have e := i3 at_ ha h0
      unfold Closed
      rw [e]
      exact ⟨h0, by omega, by omega, fun q_ hq => ⟨(bd q_ hq).1, (i4 h q_ hq).1, (i4 h q_ hq).2⟩⟩
theorem Closed_keeps (L : List S36) (dep dep' : List Int) (i : Nat) (hi : i < L.length) (h : Closed L dep i) (hk : ∀ j, j < L.length → 0 ≤ rd dep j → rd dep' j = rd dep j)
    (hnn : 0 ≤ rd dep i - takesZ (rd_T36 L i).f0 + putsZ (rd_T36 L i).f0) : Closed L dep' i := by
  obtain ⟨a, b, c, d⟩ := h
  unfold Closed
  rw [hk i hi a]
  refine ⟨a, b, c, fun q_ hq => ?_⟩
  obtain ⟨q0, q1, q2⟩ := d q_ hq
  obtain ⟨m, rfl⟩ := Int.eq_ofNat_of_zero_le q0
  exact ⟨q0, q1, by rw [hk m (by omega) (by omega), q2]⟩
def undone (done : List Bool) : Nat := (done.filter (fun b => !b)).length
theorem undone_set : ∀ (done : List Bool) (i : Nat), i < done.length → done.getD i false = false → undone (done.set i true) + 1 = undone done
  | [], i, h, _ => by simp at h
  | b :: l, 0, _, h => by
    have : b = false := by simpa using h
    subst this; simp [undone]
  | b :: l, i + 1, h, hb => by
    have := undone_set l i (by simpa using h) (by simpa using hb)
    unfold undone at this ⊢
    rw [List.set_cons_succ]
    cases b <;> simp [List.filter_cons] at this ⊢ <;> omega
theorem undone_le (done : List Bool) : undone done ≤ done.length := List.length_filter_le _ _
theorem rdOf_getD (done : List Bool) (i : Nat) : rdOf false done (i : Int) = done.getD i false := by unfold rdOf; rw [Int.toNat_natCast]
/-- All that may be asked of code: its places can be. -/
def Cans (L : List S36) : Prop := ∀ i : Nat, i < L.length → canZ L.length (rd_T36 L i).f0 (rd_T36 L i).f1 = true
theorem code_through_l1 (L : List S36) (hl : L.length ≤ 300) (hc : Cans L) (f : Nat) : ∀ (dep : List Int) (done : List Bool) (at_ : Nat), Small L dep done → at_ ≤ L.length →
    (undone done) * (L.length + 1) + (L.length - at_) < f → Ev (fun k => code_through.l1 k L dep done at_) (thruZ L f dep done at_) := by
  induction f with
  | zero => intro dep done at_ _ _ h; omega
  | succ f ih =>
    intro dep done at_ sm ha hf
    obtain ⟨dl, el, lo⟩ := sm
    unfold thruZ
    by_cases c : at_ < L.length
    · rw [if_pos c]
      have go : Ev (fun k => code_through.j3 k L dep done at_ (decide (done.getD at_ false = true ∨ rd dep at_ < 0))) (if done.getD at_ false = true ∨ rd dep at_ < 0 then thruZ L f dep done (at_ + 1) else if (passZ L at_ dep).1 = 0 then thruZ L f (passZ L at_ dep).2 (done.set at_ true) 0 else ([], (at_ : Int), (passZ L at_ dep).1)) := by
        by_cases c1 : done.getD at_ false = true ∨ rd dep at_ < 0
        · rw [if_pos c1, decide_eq_true c1]
          refine Ev.step (fun k => ?_) (ih dep done (at_ + 1) ⟨dl, el, lo⟩ (by omega) (by omega))
          simp only [code_through.j3, if_true]
          rw [w64 (by omega) (by omega)]; rfl
        · rw [if_neg c1, decide_eq_false c1]
          have hd0 : done.getD at_ false = false := by
            cases h : done.getD at_ false
            · rfl
            · exact absurd (.inl h) c1
          have h0 : 0 ≤ rd dep at_ := by
            apply Int.not_lt.mp; intro h; exact c1 (.inr h)
          have pe := code_pass_ev L at_ dep c hl dl (lo at_ c) (hc at_ c)
          obtain ⟨k1, k2, k3, k4⟩ := passZ_keeps L at_ dep c dl lo (hc at_ c) h0
          refine Ev.step (f := fun k => (code_pass.f k L at_ dep).bind fun bt154 => (if bt154.1 = 0 then (code_through.l1 k L bt154.2 (done.set (at_ : Int).toNat true) 0) else (some (([] : List Int), (at_ : Int), bt154.1)))) (fun k => ?_) ?_
          · simp only [code_through.j3]
            rw [if_neg (by simp), if_pos (by omega), if_pos (by omega)]
          · refine Ev.bind pe ?_
            by_cases c2 : (passZ L at_ dep).1 = 0
            · rw [if_pos c2]
              refine Ev.congr (fun k => if_pos c2) ?_
              rw [Int.toNat_natCast]
              have us := undone_set done at_ (by omega) hd0
              have g := ih (passZ L at_ dep).2 (done.set at_ true) 0 ⟨k1, by simpa using el, k2⟩ (by omega) (by
                have : undone done * (L.length + 1) = undone (done.set at_ true) * (L.length + 1) + (L.length + 1) := by rw [← us, Nat.add_mul, Nat.one_mul]
                omega)
              exact g
            · rw [if_neg c2]
              exact Ev.congr (fun k => if_neg c2) (Ev.now _)
      refine Ev.step (fun k => ?_) go
      simp only [code_through.l1]
      rw [if_pos (by omega), if_pos (by omega), if_pos (by omega), rdOf_getD]
      by_cases cd : done.getD at_ false = true
      · rw [if_pos cd, decide_eq_true (.inl cd)]
      · rw [if_neg cd, if_pos (by omega)]
        congr 1
        rw [decide_eq_decide]
        exact ⟨.inr, fun h => h.resolve_left cd⟩
    · rw [if_neg c]
      refine Ev.step (f := fun _ => some (dep, 0, 0)) (fun k => ?_) (Ev.now _)
      simp only [code_through.l1]; rw [if_neg (by omega)]
theorem code_through_l0 (d : Nat) : ∀ (L : List S36) (dep : List Int) (done : List Bool) (i : Nat), L.length ≤ 300 → L.length - i = d → i ≤ L.length → dep.length = L.length → 0 < L.length →
    (∃ j, firstBad L.length (L.drop i) i = some j ∧ Ev (fun k => code_through.l0 k L dep done L (L.length : Int) i) ([], (j : Int), 15)) ∨
    (firstBad L.length (L.drop i) i = none ∧ ∀ r, Ev (fun k => code_through.l1 k L (((dep.take i) ++ List.replicate (L.length - i) (-1)).set 0 0) done 0) r → Ev (fun k => code_through.l0 k L dep done L (L.length : Int) i) r) := by
  induction d with
  | zero =>
    intro L dep done i hl hd hi hdl hp
    refine .inr ⟨by rw [List.drop_of_length_le (by omega)]; rfl, fun r hr => ?_⟩
    rw [List.take_of_length_le (by omega), hd, List.replicate_zero, List.append_nil] at hr
    refine Ev.step (fun k => ?_) hr
    simp only [code_through.l0]; rw [if_neg (by omega), if_pos (by omega)]; rfl
  | succ d ih =>
    intro L dep done i hl hd hi hdl hp
    have e : L.drop i = rd_T36 L i :: L.drop (i + 1) := by
      rw [List.drop_eq_getElem_cons (by omega)]; congr 1; simp [rd_T36, List.getElem?_eq_getElem (show i < L.length by omega)]
    rw [e, firstBad]
    have can := code_can_ev (rd_T36 L i).f0 (rd_T36 L i).f1 L.length
    have step : ∀ r, Ev (fun k => if canZ L.length (rd_T36 L i).f0 (rd_T36 L i).f1 = true then (if (i : Int) < (dep.length : Int) then (code_through.l0 k L (dep.set (i : Int).toNat (-1)) done L (L.length : Int) (wrap64 ((i : Int) + 1))) else (none)) else (some (([] : List Int), (i : Int), 15))) r → Ev (fun k => code_through.l0 k L dep done L (L.length : Int) i) r := by
      intro r hr
      refine Ev.step (f := fun k => (code_can.f k ((rd_T36 L i).f0) ((rd_T36 L i).f1) (L.length : Int)).bind fun t148 => (if t148 = true then (if (i : Int) < (dep.length : Int) then (code_through.l0 k L (dep.set (i : Int).toNat (-1)) done L (L.length : Int) (wrap64 ((i : Int) + 1))) else (none)) else (some (([] : List Int), (i : Int), 15)))) (fun k => ?_) (Ev.bind can hr)
      simp only [code_through.l0]; rw [if_pos (by omega), if_pos (by omega), if_pos (by omega)]
    by_cases c : canZ L.length (rd_T36 L i).f0 (rd_T36 L i).f1 = true
    · rw [if_pos c]
      have pass : ∀ r, Ev (fun k => code_through.l0 k L (dep.set i (-1)) done L (L.length : Int) ((i + 1 : Nat) : Int)) r → Ev (fun k => code_through.l0 k L dep done L (L.length : Int) i) r := by
        intro r hr
        refine step r (Ev.congr (fun k => ?_) hr)
        rw [if_pos c, if_pos (by omega), w64 (by omega) (by omega), Int.toNat_natCast]; rfl
      rcases ih L (dep.set i (-1)) done (i + 1) hl (by omega) (by omega) (by simpa using hdl) hp with h | ⟨h1, h2⟩
      · obtain ⟨j, hj, hh⟩ := h
        exact .inl ⟨j, hj, pass _ hh⟩
      · refine .inr ⟨h1, fun r hr => pass r (h2 r ?_)⟩
        have : (dep.set i (-1)).take (i + 1) ++ List.replicate (L.length - (i + 1)) (-1) = dep.take i ++ List.replicate (L.length - i) (-1) := by
          rw [show L.length - i = (L.length - (i + 1)) + 1 from by omega, List.replicate_succ, List.take_succ_eq_append_getElem (by simp; omega), List.getElem_set_self, List.take_set_of_le (by omega)]
          simp
        rw [this]; exact hr
    · rw [if_neg c]
      exact .inl ⟨i, rfl, step _ (Ev.congr (fun k => if_neg c) (Ev.now _))⟩
theorem firstBad_none (n : Int) : ∀ (l : List S36) (i : Nat), firstBad n l i = none → ∀ x ∈ l, canZ n x.f0 x.f1 = true
  | [], _, _, x, hx => by simp at hx
  | y :: l, i, h, x, hx => by
    unfold firstBad at h
    split at h
    · rename_i c
      rcases List.mem_cons.mp hx with rfl | hx
      · exact c
      · exact firstBad_none n l (i + 1) h x hx
    · simp at h
theorem rdT_mem (L : List S36) (i : Nat) (h : i < L.length) : rd_T36 L i ∈ L := by simp [rd_T36, List.getElem?_eq_getElem h]
theorem Cans_of (L : List S36) (h : firstBad L.length L 0 = none) : Cans L := fun i hi => firstBad_none _ L 0 h _ (rdT_mem L i hi)
theorem start_small (L : List S36) (h : 0 < L.length) : Small L ((List.replicate L.length (-1)).set 0 0) (List.replicate L.length false) := by
  refine ⟨by simp, by simp, fun i hi => ?_⟩
  rw [show (i : Int) = ((i : Nat) : Int) from rfl, rd_set _ 0 i 0 (by simpa using h)]
  split
  · omega
  · simp [rd, List.getElem?_replicate, hi]
theorem code_through_ev (L : List S36) (hl : L.length ≤ 300) : Ev (fun k => code_through.f k L) (thru L) := by
  unfold thru
  by_cases c : L.length < 1 ∨ 200 < L.length
  · rw [if_pos c]
    have j : Ev (fun k => code_through.j0 k L true) ([], 0, 5) := Ev.step (f := fun _ => some ([], 0, 5)) (fun k => by simp [code_through.j0]) (Ev.now _)
    by_cases c1 : L.length < 1
    · exact Ev.congr (fun k => by unfold code_through.f; rw [if_pos (by omega)]) j
    · refine Ev.congr (fun k => ?_) j
      unfold code_through.f; rw [if_neg (by omega), decide_eq_true (by omega)]
  · rw [if_neg c]
    have start : ∀ r, Ev (fun k => code_through.l0 k L (List.replicate L.length 0) (List.replicate L.length false) L (L.length : Int) ((0 : Nat) : Int)) r → Ev (fun k => code_through.f k L) r := by
      intro r hr
      refine Ev.step (fun k => ?_) hr
      unfold code_through.f
      rw [if_neg (by omega), decide_eq_false (by omega)]
      simp only [code_through.j0]
      rw [if_neg (by simp), if_pos (by omega), if_pos (by omega), if_pos (by omega), Int.toNat_natCast]; rfl
    rcases code_through_l0 L.length L (List.replicate L.length 0) (List.replicate L.length false) 0 hl rfl (by omega) (by simp) (by omega) with h | ⟨h1, h2⟩
    · obtain ⟨j, hj, hh⟩ := h
      rw [List.drop_zero] at hj
      rw [hj]; exact start _ hh
    · rw [List.drop_zero] at h1
      rw [h1]
      refine start _ (h2 _ ?_)
      rw [List.take_zero, List.nil_append, Nat.sub_zero]
      refine code_through_l1 L hl (Cans_of L h1) _ _ _ 0 (start_small L (by omega)) (by omega) ?_
      have := undone_le (List.replicate L.length false)
      rw [List.length_replicate] at this
      have h3 : undone (List.replicate L.length false) * (L.length + 1) ≤ L.length * (L.length + 1) := Nat.mul_le_mul_right _ this
      have h4 : (L.length + 1) * (L.length + 2) = L.length * (L.length + 1) + 2 * (L.length + 1) := by rw [Nat.mul_comm, Nat.add_mul]
      omega
/-- What holds of the depths of code that fits together. -/
structure Good (L : List S36) (r : List Int) : Prop where
  len : r.length = L.length
  pos : 0 < L.length
  most : L.length ≤ 200
  cans : Cans L
  zero : rd r 0 = 0
  lo : ∀ i : Nat, i < L.length → -1 ≤ rd r i ∧ rd r i ≤ 8
  closed : ∀ i : Nat, i < L.length → 0 ≤ rd r i → Closed L r i
theorem Closed_nn (L : List S36) (hc : Cans L) (dep : List Int) (i : Nat) (hi : i < L.length) (h : Closed L dep i) : 0 ≤ rd dep i - takesZ (rd_T36 L i).f0 + putsZ (rd_T36 L i).f0 := by
  have p := putsZ_or _ (canZ_op _ _ _ (hc i hi))
  have := h.2.1
  omega
theorem thruZ_good (L : List S36) (hl : L.length ≤ 200) (h0 : 0 < L.length) (hc : Cans L) (f : Nat) : ∀ (dep : List Int) (done : List Bool) (at_ : Nat), Small L dep done → at_ ≤ L.length →
    (undone done) * (L.length + 1) + (L.length - at_) < f → (∀ p : Nat, p < L.length → done.getD p false = true → Closed L dep p) → (∀ p : Nat, p < at_ → done.getD p false = true ∨ rd dep p < 0) → rd dep 0 = 0 →
    (thruZ L f dep done at_).2.2 = 0 → Good L (thruZ L f dep done at_).1 := by
  induction f with
  | zero => intro dep done at_ _ _ h; omega
  | succ f ih =>
    intro dep done at_ sm ha hf hcl hbe hz he
    obtain ⟨dl, el, lo⟩ := sm
    unfold thruZ at he ⊢
    by_cases c : at_ < L.length
    · rw [if_pos c] at he ⊢
      by_cases c1 : done.getD at_ false = true ∨ rd dep at_ < 0
      · rw [if_pos c1] at he ⊢
        exact ih dep done (at_ + 1) ⟨dl, el, lo⟩ (by omega) (by omega) hcl (fun p hp => by
          by_cases e : p = at_
          · subst e; exact c1
          · exact hbe p (by omega)) hz he
      · rw [if_neg c1] at he ⊢
        have hd0 : done.getD at_ false = false := by
          cases h : done.getD at_ false
          · rfl
          · exact absurd (.inl h) c1
        have h0' : 0 ≤ rd dep at_ := by
          apply Int.not_lt.mp; intro h; exact c1 (.inr h)
        obtain ⟨k1, k2, k3, k4⟩ := passZ_keeps L at_ dep c dl lo (hc at_ c) h0'
        by_cases c2 : (passZ L at_ dep).1 = 0
        · rw [if_pos c2] at he ⊢
          have us := undone_set done at_ (by omega) hd0
          refine ih _ _ 0 ⟨k1, by simpa using el, k2⟩ (by omega) (by
            have : undone done * (L.length + 1) = undone (done.set at_ true) * (L.length + 1) + (L.length + 1) := by rw [← us, Nat.add_mul, Nat.one_mul]
            omega) (fun p hp hd => ?_) (fun p hp => by omega) (by have h := k3 0 h0 (by simp [hz]); simpa [hz] using h) he
          by_cases e : p = at_
          · subst e; exact k4 c2
          · have hd' : done.getD p false = true := by
              rw [List.getD_eq_getElem?_getD, List.getElem?_set_ne (by omega), ← List.getD_eq_getElem?_getD] at hd
              exact hd
            have cl := hcl p hp hd'
            exact Closed_keeps L dep _ p hp cl k3 (Closed_nn L hc dep p hp cl)
        · rw [if_neg c2] at he
          exact absurd he c2
    · rw [if_neg c] at he ⊢
      refine ⟨dl, h0, hl, hc, hz, lo, fun i hi h => ?_⟩
      rcases hbe i (by omega) with h1 | h1
      · exact hcl i hi h1
      · exact absurd h (by simp only; omega)
theorem thru_good (L : List S36) (h : (thru L).2.2 = 0) : Good L (thru L).1 := by
  unfold thru at h ⊢
  split at h
  · simp at h
  · rename_i c
    rw [if_neg c]
    cases hb : firstBad L.length L 0 with
    | some j => rw [hb] at h; simp at h
    | none =>
      rw [hb] at h
      refine thruZ_good L (by omega) (by omega) (Cans_of L hb) _ _ _ 0 (start_small L (by omega)) (by omega) ?_ (fun p hp hd => ?_) (fun p hp => by omega) ?_ h
      · have := undone_le (List.replicate L.length false)
        rw [List.length_replicate] at this
        have h3 : undone (List.replicate L.length false) * (L.length + 1) ≤ L.length * (L.length + 1) := Nat.mul_le_mul_right _ this
        have h4 : (L.length + 1) * (L.length + 2) = L.length * (L.length + 1) + 2 * (L.length + 1) := by rw [Nat.mul_comm, Nat.add_mul]
        omega
      · simp [List.getD_eq_getElem?_getD, List.getElem?_replicate, hp] at hd
      · have := rd_set (List.replicate L.length (-1)) 0 0 0 (by simp; omega)
        simpa using this
theorem code_Check_ev (L : List S36) (hl : L.length ≤ 300) : Ev (fun k => code_Check.f k L) ((thru L).2.1, (thru L).2.2) := Ev.bind (code_through_ev L hl) (Ev.now _)
theorem few15 (l : List S36) (h : l.length ≤ maxLen) : inquestref15_Few.f l = some (l.take 210) := by
  unfold inquestref15_Few.f
  have e : ([] : List S36).length = 0 := rfl
  by_cases c : l.length ≤ 210
  · rw [if_neg (by omega), if_pos (by rw [e]; omega), List.take_of_length_le c]; rfl
  · rw [if_pos (by omega), if_pos (by omega)]
    simp only [Option.bind_some]
    rw [if_pos (by rw [e, List.length_take]; omega)]; rfl
theorem same15_l0 (d : Nat) : ∀ (a b : List S36) (i : Nat), a.length = b.length → a.length ≤ 9223372036854775806 → a.length - i = d → i ≤ a.length → a = b →
    Ev (fun k => inquestref15_Same.l0 k a b i) true := by
  induction d with
  | zero =>
    intro a b i h hl hd hi hab
    refine Ev.step (f := fun _ => some true) (fun k => ?_) (Ev.now _)
    simp only [inquestref15_Same.l0]; rw [if_neg (by omega)]
  | succ d ih =>
    intro a b i h hl hd hi hab
    refine Ev.step (fun k => ?_) (ih a b (i + 1) h hl (by omega) (by omega) hab)
    subst hab
    simp only [inquestref15_Same.l0]
    rw [if_pos (by omega), if_pos (by omega), if_pos (by omega), w64 (by omega) (by omega)]; simp
theorem same15_t (a b : List S36) (hl : a.length ≤ 9223372036854775806) (h : a = b) : Ev (fun k => inquestref15_Same.f k a b) true := by
  refine Ev.congr (fun k => ?_) (same15_l0 a.length a b 0 (by rw [h]) hl (by omega) (by omega) h)
  unfold inquestref15_Same.f
  rw [if_pos (by rw [h])]; rfl
def numT : List Int := [1, 0, 0, 0, 2, 2, 0, 0, 0, 0, 0, 0, 0, 0, 0, 0, 3, 3, 0, 0]
def thenT : List Int := [0, 0, 0, 0, 0, 0, 0, 0, 0, 0, 0, 0, 0, 0, 0, 0, 1, 2, 3, 3]
theorem r15_table (a : Int) (h : 0 ≤ a ∧ a ≤ 19) : inquestref15_table.f a = some (rd numT a, takesZ a, putsZ a, rd thenT a) := by
  unfold takesZ putsZ
  rw [if_pos h, if_pos h]
  obtain ⟨n, rfl⟩ := Int.eq_ofNat_of_zero_le h.1
  have key : ∀ n : Nat, n < 20 → inquestref15_table.f (n : Int) = some (rd numT (n : Int), rd offT (n : Int), rd onT (n : Int), rd thenT (n : Int)) := by decide +kernel
  exact key n (by omega)
theorem r15_nums (a : Int) (h : 0 ≤ a ∧ a ≤ 19) : (rd numT a = if a = 0 then 1 else if a = 4 ∨ a = 5 then 2 else if a = 16 ∨ a = 17 then 3 else 0) ∧ (rd thenT a = if a = 16 then 1 else if a = 17 then 2 else if a = 18 ∨ a = 19 then 3 else 0) := by
  obtain ⟨n, rfl⟩ := Int.eq_ofNat_of_zero_le h.1
  have key : ∀ n : Nat, n < 20 → (rd numT (n : Int) = if (n : Int) = 0 then 1 else if (n : Int) = 4 ∨ (n : Int) = 5 then 2 else if (n : Int) = 16 ∨ (n : Int) = 17 then 3 else 0) ∧ (rd thenT (n : Int) = if (n : Int) = 16 then 1 else if (n : Int) = 17 then 2 else if (n : Int) = 18 ∨ (n : Int) = 19 then 3 else 0) := by decide +kernel
  exact key n (by omega)
theorem r15_then (a : Int) (h : 0 ≤ a ∧ a ≤ 19) : rd thenT a = 0 ∨ rd thenT a = 1 ∨ rd thenT a = 2 ∨ rd thenT a = 3 := by
  obtain ⟨n, rfl⟩ := Int.eq_ofNat_of_zero_le h.1
  have key : ∀ n : Nat, n < 20 → rd thenT (n : Int) = 0 ∨ rd thenT (n : Int) = 1 ∨ rd thenT (n : Int) = 2 ∨ rd thenT (n : Int) = 3 := by decide +kernel
  exact key n (by omega)
theorem r15_Is (a : Int) : inquestref15_Is.f a = some (decide (0 ≤ a ∧ a ≤ 19)) := by
  unfold inquestref15_Is.f
  by_cases h : a ≥ 0
  · rw [if_pos h]; congr 1; rw [decide_eq_decide]; exact ⟨fun h' => ⟨h, h'⟩, fun h' => h'.2⟩
  · rw [if_neg h, decide_eq_false (by omega)]
theorem r15_number (n a N : Int) (h : 0 ≤ a ∧ a ≤ 19) : inquestref15_number.f a N n = some (canZ n a N) := by
  unfold inquestref15_number.f
  rw [r15_table a h]
  simp only [Option.bind_some]
  rw [(r15_nums a h).1]
  have ht : 0 ≤ takesZ a := (putsZ_or a h).2
  unfold canZ
  by_cases c0 : a = 0
  · rw [if_pos c0, if_pos rfl, if_pos c0]
  · rw [if_neg c0, if_neg c0]
    by_cases c1 : a = 4 ∨ a = 5
    · rw [if_pos c1, if_neg (by decide), if_pos rfl, if_pos c1]
      by_cases h0 : N ≥ 0
      · rw [if_pos h0]; congr 1; rw [decide_eq_decide]; omega
      · rw [if_neg h0, decide_eq_false (by omega)]
    · rw [if_neg c1, if_neg c1]
      by_cases c2 : a = 16 ∨ a = 17
      · rw [if_pos c2, if_neg (by decide), if_neg (by decide), if_pos rfl, if_pos c2]
        by_cases h0 : N ≥ 0
        · rw [if_pos h0]; congr 1; rw [decide_eq_decide]; omega
        · rw [if_neg h0, decide_eq_false (by omega)]
      · rw [if_neg c2, if_neg (by decide), if_neg (by decide), if_neg (by decide), if_neg c2]
        congr 1
        rw [show (N == 0) = decide (N = 0) from rfl, decide_eq_decide]
        exact ⟨fun h => ⟨ht, h⟩, fun h => h.2⟩
theorem leadsR_z (n t d : Int) (l : List Int) (dep : List Int) (h0 : 0 ≤ t) (h1 : t ≤ n) (hd : 0 ≤ d) (hr : -1 ≤ rd dep t) :
    leadsZ n d (t :: l) dep = if (leadsR n t d dep).1 = 0 then leadsZ n d l (leadsR n t d dep).2 else leadsR n t d dep := by
  by_cases c : t = n
  · have e : leadsR n t d dep = (6, dep) := by unfold leadsR; rw [if_pos (by omega)]
    rw [leadsZ, if_pos c, e, if_neg (by simp)]
  · by_cases c1 : rd dep t < 0
    · have e : leadsR n t d dep = (0, dep.set t.toNat d) := by unfold leadsR; rw [if_neg (by omega), if_pos (by omega)]
      rw [leadsZ, if_neg c, if_pos c1, e, if_pos rfl]
    · by_cases c2 : rd dep t = d
      · have e : leadsR n t d dep = (0, dep) := by unfold leadsR; rw [if_neg (by omega), if_neg (by omega), if_pos c2]
        rw [leadsZ, if_neg c, if_neg c1, if_pos c2, e, if_pos rfl]
      · have e : leadsR n t d dep = (16, dep) := by unfold leadsR; rw [if_neg (by omega), if_neg (by omega), if_neg c2]
        rw [leadsZ, if_neg c, if_neg c1, if_neg c2, e, if_neg (by simp)]
theorem leadsR_len (n t d : Int) (dep : List Int) : (leadsR n t d dep).2.length = dep.length := by
  unfold leadsR
  split
  · rfl
  · split
    · simp
    · split <;> rfl
theorem leadsR_bd (n t d : Int) (dep : List Int) (h0 : 0 ≤ t) (hl : dep.length = n) (hd : 0 ≤ d) (hr : ∀ i : Nat, i < dep.length → -1 ≤ rd dep i) : ∀ i : Nat, i < dep.length → -1 ≤ rd (leadsR n t d dep).2 i := by
  intro i hi
  unfold leadsR
  obtain ⟨m, rfl⟩ := Int.eq_ofNat_of_zero_le h0
  split
  · exact hr i hi
  · split
    · rw [Int.toNat_natCast, rd_set _ _ _ _ (by omega)]
      split
      · omega
      · exact hr i hi
    · split
      · exact hr i hi
      · exact hr i hi
theorem goesR_z (L : List S36) (at_ : Nat) (dep : List Int) (ha : at_ < L.length) (hl : L.length ≤ 300) (hd : dep.length = L.length) (hr : ∀ i, i < L.length → -1 ≤ rd dep i ∧ rd dep i ≤ 8)
    (hc : canZ L.length (rd_T36 L at_).f0 (rd_T36 L at_).f1 = true) (h0 : 0 ≤ rd dep at_) :
    goesR L.length at_ (rd_T36 L at_).f1 (takesZ (rd_T36 L at_).f0) (putsZ (rd_T36 L at_).f0) (rd thenT (rd_T36 L at_).f0) dep = passZ L at_ dep := by
  have op := canZ_op _ _ _ hc
  have p := putsZ_bd (rd_T36 L at_).f0
  have p1 := takesZ_bd (rd_T36 L at_).f0
  have q := putsZ_or _ op
  have b := (hr at_ ha).2
  have bd := nextZ_bd _ _ at_ L.length hc (by omega) (by omega)
  unfold goesR passZ
  by_cases c : rd dep at_ < takesZ (rd_T36 L at_).f0
  · rw [if_pos c, if_pos (by omega)]
  · rw [if_neg c, if_neg (show ¬ rd dep at_ - takesZ (rd_T36 L at_).f0 < 0 from by omega)]
    have w1 : wrap64 (rd dep at_ - takesZ (rd_T36 L at_).f0) = rd dep at_ - takesZ (rd_T36 L at_).f0 := w64 (by omega) (by omega)
    have w2 : wrap64 (rd dep at_ - takesZ (rd_T36 L at_).f0 + putsZ (rd_T36 L at_).f0) = rd dep at_ - takesZ (rd_T36 L at_).f0 + putsZ (rd_T36 L at_).f0 := w64 (by omega) (by omega)
    have w3 : wrap64 ((at_ : Int) + 1) = (at_ : Int) + 1 := w64 (by omega) (by omega)
    rw [w1, w2, w3]
    by_cases c1 : rd dep at_ - takesZ (rd_T36 L at_).f0 + putsZ (rd_T36 L at_).f0 > 8
    · rw [if_pos c1, if_pos (show 8 < rd dep at_ - takesZ (rd_T36 L at_).f0 + putsZ (rd_T36 L at_).f0 from by omega)]
    · rw [if_neg c1, if_neg (show ¬ 8 < rd dep at_ - takesZ (rd_T36 L at_).f0 + putsZ (rd_T36 L at_).f0 from by omega)]
      have hd0 : 0 ≤ rd dep at_ - takesZ (rd_T36 L at_).f0 + putsZ (rd_T36 L at_).f0 := by omega
      generalize rd dep at_ - takesZ (rd_T36 L at_).f0 + putsZ (rd_T36 L at_).f0 = d at hd0 c1
      rw [(r15_nums _ op).2]
      have e1 : -1 ≤ rd dep ((at_ : Int) + 1) := by
        by_cases e : at_ + 1 < L.length
        · exact (hr (at_ + 1) e).1
        · have : rd dep ((at_ : Int) + 1) = 0 := by
            unfold rd; rw [List.getD_eq_getElem?_getD, List.getElem?_eq_none (by omega)]; rfl
          omega
      by_cases c16 : (rd_T36 L at_).f0 = 16
      · have nz : nextZ (rd_T36 L at_).f0 (rd_T36 L at_).f1 at_ = [(rd_T36 L at_).f1] := by unfold nextZ; rw [if_neg (by omega), if_pos c16]
        rw [nz] at bd ⊢
        rw [if_pos c16, if_neg (by decide), if_pos (by decide)]
        have bn := bd _ (List.mem_singleton.2 rfl)
        have e2 : -1 ≤ rd dep (rd_T36 L at_).f1 := by
          obtain ⟨m, hm⟩ := Int.eq_ofNat_of_zero_le bn.1
          rw [hm] at bn ⊢
          by_cases e : m < L.length
          · exact (hr m e).1
          · have : rd dep (m : Int) = 0 := by unfold rd; rw [List.getD_eq_getElem?_getD, List.getElem?_eq_none (by omega)]; rfl
            omega
        rw [leadsR_z _ _ _ [] dep bn.1 bn.2 hd0 e2, leadsZ]
        split
        · rename_i hz; rw [← hz]
        · rfl
      · rw [if_neg c16]
        by_cases c17 : (rd_T36 L at_).f0 = 17
        · have nz : nextZ (rd_T36 L at_).f0 (rd_T36 L at_).f1 at_ = [(at_ : Int) + 1, (rd_T36 L at_).f1] := by unfold nextZ; rw [if_neg (by omega), if_neg c16, if_pos c17]
          rw [nz] at bd ⊢
          rw [if_pos c17, if_pos (by decide)]
          have bn := bd (rd_T36 L at_).f1 (by simp)
          rw [leadsR_z _ _ _ [_] dep (by omega) (by omega) hd0 e1]
          by_cases z : (leadsR L.length (at_ + 1) d dep).1 = 0
          · rw [if_neg (by simp [z]), if_pos (by decide), if_pos z]
            have e2 : -1 ≤ rd (leadsR L.length (at_ + 1) d dep).2 (rd_T36 L at_).f1 := by
              obtain ⟨m, hm⟩ := Int.eq_ofNat_of_zero_le bn.1
              rw [hm] at bn ⊢
              by_cases e : m < L.length
              · exact leadsR_bd _ _ d dep (by omega) (by omega) hd0 (fun i hi => (hr i (by omega)).1) m (by omega)
              · have : rd (leadsR L.length (at_ + 1) d dep).2 (m : Int) = 0 := by
                  have hl2 : (leadsR L.length (at_ + 1) d dep).2.length = L.length := by rw [leadsR_len, hd]
                  unfold rd; rw [List.getD_eq_getElem?_getD, List.getElem?_eq_none (by omega)]; rfl
                omega
            rw [leadsR_z _ _ _ [] _ bn.1 bn.2 hd0 e2, leadsZ]
            split
            · rename_i hz; rw [← hz]
            · rfl
          · rw [if_pos (by simpa using z), if_neg z]
        · rw [if_neg c17]
          by_cases c18 : (rd_T36 L at_).f0 = 18 ∨ (rd_T36 L at_).f0 = 19
          · have nz : nextZ (rd_T36 L at_).f0 (rd_T36 L at_).f1 at_ = [] := by unfold nextZ; rw [if_pos c18]
            rw [nz, if_pos c18, if_neg (by decide), if_neg (by decide)]; rfl
          · have nz : nextZ (rd_T36 L at_).f0 (rd_T36 L at_).f1 at_ = [(at_ : Int) + 1] := by unfold nextZ; rw [if_neg c18, if_neg c16, if_neg c17]
            rw [nz, if_neg c18, if_pos (by decide)]
            rw [leadsR_z _ _ _ [] dep (by omega) (by omega) hd0 e1, leadsZ]
            by_cases z : (leadsR L.length (at_ + 1) d dep).1 = 0
            · rw [if_neg (by simp [z]), if_neg (by decide), if_pos z]; exact Prod.ext z rfl
            · rw [if_pos (by simpa using z), if_neg z]
theorem r15_l1 (L : List S36) (hl : L.length ≤ 300) (hc : Cans L) (f : Nat) : ∀ (dep : List Int) (done : List Bool) (at_ : Nat), Small L dep done → at_ ≤ L.length →
    (undone done) * (L.length + 1) + (L.length - at_) < f → inquestref15_Through.l1 f L dep done at_ = some (thruZ L f dep done at_) := by
  induction f with
  | zero => intro dep done at_ _ _ h; omega
  | succ f ih =>
    intro dep done at_ sm ha hf
    obtain ⟨dl, el, lo⟩ := sm
    unfold thruZ inquestref15_Through.l1
    by_cases c : at_ < L.length
    · rw [if_pos c, if_pos (by omega), rdOf_getD]
      by_cases c0 : done.getD at_ false = true
      · rw [if_pos c0, if_pos (.inl c0)]
        exact ih dep done (at_ + 1) ⟨dl, el, lo⟩ (by omega) (by omega)
      · rw [if_neg c0]
        by_cases c1 : rd dep at_ = -1
        · rw [if_pos c1, if_pos (.inr (by omega))]
          exact ih dep done (at_ + 1) ⟨dl, el, lo⟩ (by omega) (by omega)
        · have hd0 : done.getD at_ false = false := by
            cases h : done.getD at_ false
            · rfl
            · exact absurd h c0
          have h0 : 0 ≤ rd dep at_ := by have := (lo at_ c).1; omega
          have op := canZ_op _ _ _ (hc at_ c)
          have tn := (r15_nums _ op).2
          have cn := hc at_ c
          obtain ⟨k1, k2, k3, k4⟩ := passZ_keeps L at_ dep c dl lo (hc at_ c) h0
          rw [if_neg c1, if_neg (fun h => h.elim c0 (fun h => by omega)), r15_table _ op]
          simp only [Option.bind_some]
          rw [if_pos (r15_then _ op), if_pos (by
            intro h
            rw [tn] at h
            unfold canZ at cn
            by_cases e16 : (rd_T36 L at_).f0 = 16
            · rw [e16] at cn; simp at cn; omega
            · by_cases e17 : (rd_T36 L at_).f0 = 17
              · rw [e17] at cn; simp at cn; omega
              · rw [if_neg e16, if_neg e17] at h
                split at h
                · omega
                · omega), goesR_z L at_ dep c hl dl lo (hc at_ c) h0]
          by_cases c2 : (passZ L at_ dep).1 = 0
          · rw [if_pos c2, if_pos c2, Int.toNat_natCast]
            have us := undone_set done at_ (by omega) hd0
            exact ih (passZ L at_ dep).2 (done.set at_ true) 0 ⟨k1, by simpa using el, k2⟩ (by omega) (by
              have : undone done * (L.length + 1) = undone (done.set at_ true) * (L.length + 1) + (L.length + 1) := by rw [← us, Nat.add_mul, Nat.one_mul]
              omega)
          · rw [if_neg c2, if_neg c2]
    · rw [if_neg c, if_neg (by omega)]
theorem r15_l0 (d K : Nat) : ∀ (L : List S36) (i : Nat), L.length - i = d → i ≤ L.length →
    inquestref15_Through.l0 K (d + 1) L i = match firstBad L.length (L.drop i) i with
      | some j => some ([], (j : Int), 15)
      | none => inquestref15_Through.l1 K L ((List.replicate L.length (-1)).set 0 0) (List.replicate L.length false) 0 := by
  induction d with
  | zero =>
    intro L i hd hi
    rw [List.drop_of_length_le (by omega)]
    simp only [firstBad]
    unfold inquestref15_Through.l0
    rw [if_neg (by omega)]
  | succ d ih =>
    intro L i hd hi
    have e : L.drop i = rd_T36 L i :: L.drop (i + 1) := by
      rw [List.drop_eq_getElem_cons (by omega)]; congr 1; simp [rd_T36, List.getElem?_eq_getElem (show i < L.length by omega)]
    rw [e, firstBad]
    unfold inquestref15_Through.l0
    rw [if_pos (by omega), r15_Is]
    simp only [Option.bind_some]
    by_cases op : 0 ≤ (rd_T36 L i).f0 ∧ (rd_T36 L i).f0 ≤ 19
    · rw [decide_eq_true op, if_pos rfl, r15_number _ _ _ op]
      simp only [Option.bind_some]
      by_cases c : canZ L.length (rd_T36 L i).f0 (rd_T36 L i).f1 = true
      · rw [if_pos c, if_pos c]
        exact ih L (i + 1) (by omega) (by omega)
      · rw [if_neg c, if_neg c]
    · rw [decide_eq_false op, if_neg (by decide), if_neg (fun h => op (canZ_op _ _ _ h))]
theorem r15_Through (L : List S36) (hl : L.length ≤ 300) : inquestref15_Through.f L = some (thru L) := by
  unfold inquestref15_Through.f thru
  by_cases c : L.length < 1 ∨ 200 < L.length
  · rw [if_pos (by omega), if_pos c]
  · rw [if_neg (by omega), if_neg c, r15_l0 L.length _ L 0 (by omega) (by omega), List.drop_zero]
    cases h1 : firstBad L.length L 0 with
    | some j => rfl
    | none =>
      refine r15_l1 L hl (Cans_of L h1) _ _ _ 0 (start_small L (by omega)) (by omega) ?_
      have := undone_le (List.replicate L.length false)
      rw [List.length_replicate] at this
      have h3 : undone (List.replicate L.length false) * (L.length + 1) ≤ L.length * (L.length + 1) := Nat.mul_le_mul_right _ this
      have h4 : (L.length + 1) * (L.length + 2) = L.length * (L.length + 1) + 2 * (L.length + 1) := by rw [Nat.mul_comm, Nat.add_mul]
      omega
theorem r15_Check (L : List S36) (hl : L.length ≤ 300) : inquestref15_Check.f L = some ((thru L).2.1, (thru L).2.2) := by
  unfold inquestref15_Check.f; rw [r15_Through L hl]; rfl
end Go.Proofs.Ytddkoimaghcbeaa.PVmSteps
