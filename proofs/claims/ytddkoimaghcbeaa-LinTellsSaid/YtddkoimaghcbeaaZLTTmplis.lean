/- A part of what the law LinTells stands on, only as far as it is needed (the words and walks were printed or written in this seat; this text was cut by a program of this session, wip/bin/trim.py). No condition beyond what each theorem says. -/
import Derived.Test.YtddkoimaghcbeaaZLTPVmStepsx0
import Derived.Test.YtddkoimaghcbeaaZLTPVmStepsx2
import Derived.Test.YtddkoimaghcbeaaZLTPVmStepsx3
import Derived.Test.YtddkoimaghcbeaaZLTPVmStepsx4
import Derived.Test.YtddkoimaghcbeaaZLTPVmStepsx5
import Derived.Test.YtddkoimaghcbeaaZLTPVmStepsx6
import Derived.Test.YtddkoimaghcbeaaZLTTmpory
import Derived.Test.YtddkoimaghcbeaaZLTTmplia
namespace Go.Proofs.Ytddkoimaghcbeaa.PVmSteps
open Go.RowKit Go.Proofs.YtddkoimaghcbeaaW.PrintWords Go.Proofs.YtddkoimaghcbeaaW.PrintLast Go.Proofs.YtddkoimaghcbeaaW.PrintMore
set_option linter.unusedVariables false
set_option linter.unusedSimpArgs false
/-- The bits below n at which something is so. -/
def maskZ (p : Nat → Bool) : Nat → Nat
  | 0 => 0
  | k + 1 => if p k = true then maskZ p k ||| 2 ^ k else maskZ p k
theorem mask_bit (p : Nat → Bool) (j : Nat) : ∀ n, (maskZ p n).testBit j = (decide (j < n) && p j)
  | 0 => by simp [maskZ]
  | n + 1 => by
    rw [maskZ]
    have ih := mask_bit p j n
    by_cases c : p n = true
    · rw [if_pos c, Nat.testBit_or, ih, Nat.testBit_two_pow]
      by_cases d : j < n
      · simp [d, show j < n + 1 by omega, show n ≠ j by omega]
      · by_cases e : j = n
        · subst e; simp [c]
        · simp [d, show ¬ j < n + 1 by omega, show n ≠ j by omega]
    · rw [if_neg c, ih]
      by_cases d : j < n
      · simp [d, show j < n + 1 by omega]
      · by_cases e : j = n
        · subst e
          have : p j = false := by simpa using c
          simp [this]
        · simp [d, show ¬ j < n + 1 by omega]
theorem mask_lt (p : Nat → Bool) (n : Nat) : maskZ p n < 2 ^ n := by
  refine Nat.lt_pow_two_of_testBit _ (fun j hj => ?_)
  rw [mask_bit]; simp [show ¬ j < n by omega]
theorem mask_lt64 (p : Nat → Bool) {n : Nat} (h : n ≤ 64) : maskZ p n < 2 ^ 64 := Nat.lt_of_lt_of_le (mask_lt p n) (Nat.pow_le_pow_right (by decide) h)
/-- The bits of a that s lacks. -/
def lackZ (a s : Nat) : Nat := a ^^^ (a &&& s)
theorem lack_bit (a s j : Nat) : (lackZ a s).testBit j = (a.testBit j && !s.testBit j) := by
  unfold lackZ
  rw [Nat.testBit_xor, Nat.testBit_and]
  cases a.testBit j <;> cases s.testBit j <;> rfl
theorem lack_0 (a s : Nat) : lackZ a s = 0 ↔ ∀ j, a.testBit j = true → s.testBit j = true := by
  constructor
  · intro h j hj
    have := lack_bit a s j
    rw [h, hj] at this
    simpa using this
  · intro h
    refine Nat.eq_of_testBit_eq (fun j => ?_)
    rw [lack_bit]
    cases c : a.testBit j with
    | false => simp
    | true => simp [h j c]
theorem lack_le (a s : Nat) (h : a < 2 ^ 64) : lackZ a s < 2 ^ 64 := by
  refine Nat.lt_pow_two_of_testBit _ (fun j hj => ?_)
  rw [lack_bit, Nat.testBit_lt_two_pow (Nat.lt_of_lt_of_le h (Nat.pow_le_pow_right (by decide) hj))]; rfl
/-- What stays while a search goes. -/
structure LinQ where
  L : List S36
  fuel : Int
  budget : Int
  ops : List S65
/-- What turns. The frame at the top comes first. -/
structure LinS where
  seen : List Ps
  l : List Fr
  order : List Int
  tries : Nat
  over : Bool
  kind : Int
def aheadZ (ops : List S65) (i : Nat) : Nat := maskZ (fun k => befZ (rd_T65 ops (k : Int)) (rd_T65 ops (i : Int))) ops.length
def mustZ (ops : List S65) : Nat := maskZ (fun k => (rd_T65 ops (k : Int)).f3) ops.length
/-- Place i is not in the set, and all that are before it are. -/
def freeZ (ops : List S65) (s i : Nat) : Bool := !s.testBit i && decide (lackZ (aheadZ ops i) s = 0)
/-- The least free place from i on; d: how many there are to be looked at. -/
def nextD (ops : List S65) (s : Nat) : Nat → Nat → Nat
  | 0, i => i
  | d + 1, i => if freeZ ops s i = true then i else nextD ops s d (i + 1)
def nexZ (ops : List S65) (s i : Nat) : Nat := nextD ops s (ops.length - i) i
theorem nextD_facts (ops : List S65) (s : Nat) : ∀ d i, i ≤ nextD ops s d i ∧ nextD ops s d i ≤ i + d ∧ (nextD ops s d i < i + d → freeZ ops s (nextD ops s d i) = true) ∧ ∀ j, i ≤ j → j < nextD ops s d i → freeZ ops s j = false
  | 0, i => ⟨Nat.le_refl _, Nat.le_refl _, fun h => by simp [nextD] at h, fun j h1 h2 => by simp [nextD] at h2; omega⟩
  | d + 1, i => by
    rw [nextD]
    by_cases c : freeZ ops s i = true
    · rw [if_pos c]
      exact ⟨Nat.le_refl _, by omega, fun _ => c, fun j h1 h2 => by omega⟩
    · rw [if_neg c]
      obtain ⟨h1, h2, h3, h4⟩ := nextD_facts ops s d (i + 1)
      refine ⟨by omega, by omega, fun h => h3 (by omega), fun j h5 h6 => ?_⟩
      by_cases e : j = i
      · subst e; simpa using c
      · exact h4 j (by omega) h6
theorem nexZ_le (ops : List S65) (s i : Nat) (h : i ≤ ops.length) : nexZ ops s i ≤ ops.length := by
  have := (nextD_facts ops s (ops.length - i) i).2.1
  unfold nexZ; omega
theorem nexZ_step (ops : List S65) (s i : Nat) (h : i < ops.length) (hf : freeZ ops s i = false) : nexZ ops s i = nexZ ops s (i + 1) := by
  unfold nexZ
  rw [show ops.length - i = (ops.length - (i + 1)) + 1 by omega, nextD, if_neg (by simp [hf])]
theorem nexZ_here (ops : List S65) (s i : Nat) (h : i < ops.length) (hf : freeZ ops s i = true) : nexZ ops s i = i := by
  unfold nexZ
  rw [show ops.length - i = (ops.length - (i + 1)) + 1 by omega, nextD, if_pos hf]
theorem nexZ_end (ops : List S65) (s i : Nat) (h : ops.length ≤ i) : nexZ ops s i = i := by
  unfold nexZ
  rw [show ops.length - i = 0 by omega, nextD]
/-- The place that is due: whether there is one, the frames, the order. -/
def dueZ (ops : List S65) : List Fr → List Int → Bool × List Fr × List Int
  | [], o => (false, [], o)
  | (p, i) :: r, o => if nexZ ops p.1 i < ops.length then (true, (p, nexZ ops p.1 i) :: r, o) else dueZ ops r o.dropLast
def enterZ (q : LinQ) (st : LinS) (p : Ps) : LinS :=
  if p.1 &&& mustZ q.ops = mustZ q.ops then { st with l := (p, 0) :: st.l, over := true, kind := 1 } else { st with l := (p, 0) :: st.l }
/-- A try of the place that is due. -/
def tryZ (q : LinQ) (st : LinS) : LinS := match st.l with
  | [] => st
  | (p, i) :: r =>
    match vstep q.L p.2 (rd_T65 q.ops (i : Int)).f1 (rd_T65 q.ops (i : Int)).f2 q.fuel with
    | none => { st with l := (p, i + 1) :: r, tries := st.tries + 1 }
    | some (k, cs, rr, _) =>
      if k = 3 then { st with l := (p, i + 1) :: r, tries := st.tries + 1, over := true, kind := 3 }
      else if k ≠ 1 ∨ ((rd_T65 q.ops (i : Int)).f3 = true ∧ rr ≠ (rd_T65 q.ops (i : Int)).f4) then { st with l := (p, i + 1) :: r, tries := st.tries + 1 }
      else if (p.1 ||| 2 ^ i, cs) ∈ st.seen then { st with l := (p, i + 1) :: r, tries := st.tries + 1 }
      else enterZ q { st with l := (p, i + 1) :: r, tries := st.tries + 1, seen := st.seen ++ [(p.1 ||| 2 ^ i, cs)], order := st.order ++ [(i : Int)] } (p.1 ||| 2 ^ i, cs)
def finZ (st : LinS) : LinS := { st with seen := [], l := [] }
/-- What is done ahead of a try: the state, and whether a try is due. -/
def readyZ (q : LinQ) (st : LinS) : LinS × Bool :=
  if st.over = true then (finZ st, false)
  else match dueZ q.ops st.l st.order with
    | (false, l, o) => (finZ { st with l := l, order := o, over := true, kind := 2 }, false)
    | (true, l, o) => if (st.tries : Int) = q.budget then (finZ { st with l := l, order := o, over := true, kind := 4 }, false) else ({ st with l := l, order := o }, true)
/-- At most n tries. -/
def goZ (q : LinQ) : Nat → LinS → LinS
  | 0, st => (readyZ q st).1
  | n + 1, st => if (readyZ q st).2 = true then goZ q n (tryZ q (readyZ q st).1) else (readyZ q st).1
def begZ (q : LinQ) : LinS := enterZ q ⟨[(0, [0, 0, 0, 0])], [], [], 0, false, 0⟩ (0, [0, 0, 0, 0])
def newZ (q : LinQ) : LinS := goZ q 0 (begZ q)
/-- What all states of a search are like. -/
structure LinW (q : LinQ) (st : LinS) : Prop where
  n64 : q.ops.length ≤ 64
  b0 : 0 ≤ q.budget
  b1 : q.budget ≤ 1073741824
  fr : ∀ f ∈ st.l, f.1.1 < 2 ^ q.ops.length ∧ f.1.2.length = 4 ∧ f.2 ≤ q.ops.length
  sn : ∀ p ∈ st.seen, p.2.length = 4
  ol : st.order.length ≤ st.tries
  ll : st.l.length ≤ st.tries + 1
  tb : (st.tries : Int) ≤ q.budget
theorem dueZ_facts (ops : List S65) : ∀ (l : List Fr) (o : List Int), (∀ f ∈ l, f.1.1 < 2 ^ ops.length ∧ f.1.2.length = 4 ∧ f.2 ≤ ops.length) →
    (∀ f ∈ (dueZ ops l o).2.1, f.1.1 < 2 ^ ops.length ∧ f.1.2.length = 4 ∧ f.2 ≤ ops.length) ∧ (dueZ ops l o).2.1.length ≤ l.length ∧ (dueZ ops l o).2.2.length ≤ o.length ∧
    ((dueZ ops l o).1 = true → ∃ p i r, (dueZ ops l o).2.1 = (p, i) :: r ∧ i < ops.length ∧ freeZ ops p.1 i = true)
  | [], o, h => ⟨h, Nat.le_refl _, Nat.le_refl _, fun e => by simp [dueZ] at e⟩
  | (p, i) :: r, o, h => by
    rw [dueZ]
    have hp := h (p, i) (by simp)
    by_cases c : nexZ ops p.1 i < ops.length
    · rw [if_pos c]
      refine ⟨fun f hf => ?_, by simp, Nat.le_refl _, fun _ => ⟨_, _, _, rfl, c, ?_⟩⟩
      · rcases List.mem_cons.mp hf with rfl | hf
        · exact ⟨hp.1, hp.2.1, nexZ_le ops p.1 i hp.2.2⟩
        · exact h f (by simp [hf])
      · have := (nextD_facts ops p.1 (ops.length - i) i).2.2.1
        have hi : i ≤ ops.length := hp.2.2
        exact this (by unfold nexZ at c; omega)
    · rw [if_neg c]
      obtain ⟨h1, h2, h3, h4⟩ := dueZ_facts ops r o.dropLast (fun f hf => h f (by simp [hf]))
      exact ⟨h1, by simp; omega, by simp at h3; omega, h4⟩
theorem LinW.fin {q : LinQ} {st : LinS} (h : LinW q st) : LinW q (finZ st) := ⟨h.n64, h.b0, h.b1, fun f hf => by simp [finZ] at hf, fun p hp => by simp [finZ] at hp, h.ol, by simp [finZ], h.tb⟩
theorem LinW.ready {q : LinQ} {st : LinS} (h : LinW q st) : LinW q (readyZ q st).1 ∧ ((readyZ q st).2 = true → ((readyZ q st).1.tries : Int) < q.budget ∧ ∃ p i r, (readyZ q st).1.l = (p, i) :: r ∧ i < q.ops.length ∧ freeZ q.ops p.1 i = true) := by
  unfold readyZ
  by_cases c : st.over = true
  · rw [if_pos c]; exact ⟨h.fin, fun e => by cases e⟩
  rw [if_neg c]
  obtain ⟨h1, h2, h3, h4⟩ := dueZ_facts q.ops st.l st.order h.fr
  have ho := h.ol
  have hl := h.ll
  generalize dueZ q.ops st.l st.order = d at *
  obtain ⟨b, l, o⟩ := d
  have hW : LinW q { st with l := l, order := o } := ⟨h.n64, h.b0, h.b1, h1, h.sn, by simp at h3 ⊢; omega, by simp at h2 ⊢; omega, h.tb⟩
  cases b with
  | false => exact ⟨LinW.fin ⟨hW.n64, hW.b0, hW.b1, hW.fr, hW.sn, hW.ol, hW.ll, hW.tb⟩, fun e => by cases e⟩
  | true =>
    dsimp only
    by_cases c2 : (st.tries : Int) = q.budget
    · rw [if_pos c2]; exact ⟨LinW.fin ⟨hW.n64, hW.b0, hW.b1, hW.fr, hW.sn, hW.ol, hW.ll, hW.tb⟩, fun e => by cases e⟩
    · rw [if_neg c2]
      exact ⟨hW, fun _ => ⟨by have := h.tb; show (st.tries : Int) < _; omega, h4 rfl⟩⟩
theorem or_lt {s i n : Nat} (hs : s < 2 ^ n) (hi : i < n) : s ||| 2 ^ i < 2 ^ n := Nat.or_lt_two_pow hs (Nat.pow_lt_pow_right (by decide) hi)
theorem LinW.enter {q : LinQ} {st : LinS} (h : LinW q st) (p : Ps) (hp : p.1 < 2 ^ q.ops.length) (h4 : p.2.length = 4) (hl : st.l.length ≤ st.tries) : LinW q (enterZ q st p) := by
  have hf : ∀ f ∈ (p, 0) :: st.l, f.1.1 < 2 ^ q.ops.length ∧ f.1.2.length = 4 ∧ f.2 ≤ q.ops.length := fun f hf => by
    rcases List.mem_cons.mp hf with rfl | hf
    · exact ⟨hp, h4, Nat.zero_le _⟩
    · exact h.fr f hf
  unfold enterZ
  split
  · exact ⟨h.n64, h.b0, h.b1, hf, h.sn, h.ol, by simp; omega, h.tb⟩
  · exact ⟨h.n64, h.b0, h.b1, hf, h.sn, h.ol, by simp; omega, h.tb⟩
theorem LinW.try {q : LinQ} {st : LinS} (h : LinW q st) (hc : (thru q.L).2.2 = 0) (hb : (st.tries : Int) < q.budget) {p : Ps} {i : Nat} {r : List Fr} (hl : st.l = (p, i) :: r) (hi : i < q.ops.length) : LinW q (tryZ q st) := by
  have hp := h.fr (p, i) (by simp [hl])
  have hll := h.ll
  have hol := h.ol
  rw [hl] at hll
  have hf : ∀ f ∈ (p, i + 1) :: r, f.1.1 < 2 ^ q.ops.length ∧ f.1.2.length = 4 ∧ f.2 ≤ q.ops.length := fun f hf => by
    rcases List.mem_cons.mp hf with rfl | hf
    · exact ⟨hp.1, hp.2.1, hi⟩
    · exact h.fr f (by simp [hl, hf])
  have h1 : ∀ (o : Bool) (k : Int), LinW q { st with l := (p, i + 1) :: r, tries := st.tries + 1, over := o, kind := k } := fun o k => ⟨h.n64, h.b0, h.b1, hf, h.sn, by simp; omega, by simp at hll ⊢; omega, by simp; omega⟩
  unfold tryZ
  rw [hl]
  dsimp only
  obtain ⟨rk, rs, rr, ru, hv, h4, _⟩ := vstep_good q.L hc p.2 hp.2.1 (rd_T65 q.ops (i : Int)).f1 (rd_T65 q.ops (i : Int)).f2 q.fuel
  rw [hv]
  dsimp only
  split
  · exact h1 _ _
  · split
    · exact h1 _ _
    · split
      · exact h1 _ _
      · have hq := or_lt hp.1 hi
        refine LinW.enter ⟨h.n64, h.b0, h.b1, hf, ?_, by simp; omega, by simp at hll ⊢; omega, by simp; omega⟩ _ hq h4 (by simp at hll ⊢; omega)
        intro x hx
        rcases List.mem_append.mp hx with hx | hx
        · exact h.sn x hx
        · simp at hx; subst hx; exact h4
theorem LinW.go {q : LinQ} (hc : (thru q.L).2.2 = 0) : ∀ (n : Nat) {st : LinS}, LinW q st → LinW q (goZ q n st)
  | 0, st, h => h.ready.1
  | n + 1, st, h => by
    rw [goZ]
    split
    · rename_i e
      obtain ⟨h1, p, i, r, h2, h3, _⟩ := h.ready.2 e
      exact LinW.go hc n (h.ready.1.try hc h1 h2 h3)
    · exact h.ready.1
theorem LinW.beg {q : LinQ} (hn : q.ops.length ≤ 64) (h0 : 0 ≤ q.budget) (h1 : q.budget ≤ 1073741824) : LinW q (begZ q) := by
  unfold begZ
  refine LinW.enter ⟨hn, h0, h1, fun f hf => by simp at hf, fun p hp => by simp at hp; subst hp; rfl, Nat.le_refl _, Nat.zero_le _, by simpa using h0⟩ _ (Nat.pow_pos (by decide)) rfl (Nat.le_refl _)
end Go.Proofs.Ytddkoimaghcbeaa.PVmSteps
