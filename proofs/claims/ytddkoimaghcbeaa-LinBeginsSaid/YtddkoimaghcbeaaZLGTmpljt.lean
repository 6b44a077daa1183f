/- A part of what the law LinBegins stands on, only as far as it is needed (the words and walks were printed or written in this seat; this text was cut by a program of this session, wip/bin/trim.py). No condition beyond what each theorem says. -/
import Derived.Test.YtddkoimaghcbeaaZLGPVmStepsx0
import Derived.Test.YtddkoimaghcbeaaZLGPVmStepsx2
import Derived.Test.YtddkoimaghcbeaaZLGPVmStepsx3
import Derived.Test.YtddkoimaghcbeaaZLGPVmStepsx4
import Derived.Test.YtddkoimaghcbeaaZLGPVmStepsx5
import Derived.Test.YtddkoimaghcbeaaZLGTmpljb
namespace Go.Proofs.Ytddkoimaghcbeaa.PVmSteps
open Go.RowKit Go.Proofs.YtddkoimaghcbeaaW.PrintWords Go.Proofs.YtddkoimaghcbeaaW.PrintLast Go.Proofs.YtddkoimaghcbeaaW.PrintMore
set_option linter.unusedVariables false
set_option linter.unusedSimpArgs false
def StkP (q : LinQ) : List Fr → List Int → Prop
  | [], _ => True
  | [(p, _)], o => p = r0Z ∧ o = []
  | (p, _) :: (p2, i2) :: r, o => ∃ o' j, o = o' ++ [((j : Nat) : Int)] ∧ Mv q p2 j p ∧ StkP q ((p2, i2) :: r) o'
theorem StkP.pth {q : LinQ} : ∀ {r : List Fr} {p : Ps} {i : Nat} {o : List Int}, StkP q ((p, i) :: r) o → Pth q r0Z o p
  | [], p, i, o, ⟨h1, h2⟩ => by subst h1 h2; rfl
  | (p2, i2) :: r, p, i, o, ⟨o', j, h1, h2, h3⟩ => by rw [h1]; exact Pth.snoc (StkP.pth h3) h2
theorem StkP.idx {q : LinQ} {r : List Fr} {p : Ps} {i : Nat} {o : List Int} (h : StkP q ((p, i) :: r) o) (i' : Nat) : StkP q ((p, i') :: r) o := by
  cases r with
  | nil => exact h
  | cons f r => exact h
theorem StkP.pop {q : LinQ} {r : List Fr} {f : Fr} {o : List Int} (h : StkP q (f :: r) o) : StkP q r o.dropLast := by
  cases r with
  | nil => trivial
  | cons f2 r =>
    obtain ⟨o', j, h1, h2, h3⟩ := h
    rw [h1, List.dropLast_concat]; exact h3
theorem StkP.due {q : LinQ} : ∀ {l : List Fr} {o : List Int}, StkP q l o → StkP q (dueZ q.ops l o).2.1 (dueZ q.ops l o).2.2
  | [], o, h => trivial
  | (p, i) :: r, o, h => by
    rw [dueZ]
    split
    · exact h.idx _
    · exact StkP.due h.pop
/-- Each position that was seen is not full; where one can go from it was seen, too, or is still to be tried. -/
structure CI (q : LinQ) (seen : List Ps) (l : List Fr) : Prop where
  root : r0Z ∈ seen
  nf : ∀ p ∈ seen, ¬ FullP q.ops p.1
  mv : ∀ p ∈ seen, ∀ j p', Mv q p j p' → p' ∈ seen ∨ ∃ i, (p, i) ∈ l ∧ i ≤ j
theorem nexZ_no {ops : List S65} {s i j : Nat} (hij : i ≤ j) (hj : j < nexZ ops s i) : freeZ ops s j = false := (nextD_facts ops s (ops.length - i) i).2.2.2 j hij hj
theorem CI.due {q : LinQ} {seen : List Ps} : ∀ {l : List Fr} {o : List Int}, CI q seen l → CI q seen (dueZ q.ops l o).2.1
  | [], o, h => h
  | (p, i) :: r, o, h => by
    rw [dueZ]
    split
    · refine ⟨h.root, h.nf, fun p1 hp1 j p' hm => ?_⟩
      rcases h.mv p1 hp1 j p' hm with e | ⟨i1, h1, h2⟩
      · exact .inl e
      · rcases List.mem_cons.mp h1 with e | e
        · injection e with e1 e2
          subst e1 e2
          refine .inr ⟨nexZ q.ops p1.1 i1, by simp, ?_⟩
          rcases Nat.lt_or_ge j (nexZ q.ops p1.1 i1) with c | c
          · have := nexZ_no h2 c
            rw [hm.2.1] at this; cases this
          · exact c
        · exact .inr ⟨i1, List.mem_cons_of_mem _ e, h2⟩
    · rename_i hn
      refine CI.due ⟨h.root, h.nf, fun p1 hp1 j p' hm => ?_⟩
      rcases h.mv p1 hp1 j p' hm with e | ⟨i1, h1, h2⟩
      · exact .inl e
      · rcases List.mem_cons.mp h1 with e | e
        · injection e with e1 e2
          subst e1 e2
          have hj : j < q.ops.length := hm.1
          have := nexZ_no h2 (show j < nexZ q.ops p1.1 i1 by omega)
          rw [hm.2.1] at this; cases this
        · exact .inr ⟨i1, e, h2⟩
theorem CI.none {q : LinQ} {seen : List Ps} (h : CI q seen []) : ∀ (o : List Int) (p p' : Ps), p ∈ seen → Pth q p o p' → p' ∈ seen
  | [], p, p', hp, h1 => by rw [show p' = p from h1]; exact hp
  | x :: o, p, p', hp, ⟨j, m, _, hm, h1⟩ => by
    rcases h.mv p hp j m hm with e | ⟨i, h2, _⟩
    · exact CI.none h o m p' e h1
    · simp at h2
def eZ : Nat → Nat
  | 0 => 0
  | m + 1 => (m + 1) * (1 + eZ m)
/-- How many places from i on are not in the set; d: how many there are. -/
def cntD (s : Nat) : Nat → Nat → Nat
  | 0, _ => 0
  | d + 1, i => (if s.testBit i = true then 0 else 1) + cntD s d (i + 1)
def remZ (n s i : Nat) : Nat := cntD s (n - i) i
theorem cnt_step (n s i : Nat) (h : i < n) : remZ n s i = (if s.testBit i = true then 0 else 1) + remZ n s (i + 1) := by
  unfold remZ
  rw [show n - i = (n - (i + 1)) + 1 by omega, cntD]
theorem cnt_mono (n s : Nat) : ∀ (d i : Nat), remZ n s (i + d) ≤ remZ n s i
  | 0, i => Nat.le_refl _
  | d + 1, i => by
    have h1 := cnt_mono n s d (i + 1)
    rw [show i + (d + 1) = i + 1 + d by omega]
    refine Nat.le_trans h1 ?_
    by_cases c : i < n
    · rw [cnt_step n s i c]; omega
    · unfold remZ
      rw [show n - i = 0 by omega, show n - (i + 1) = 0 by omega]
      exact Nat.le_refl _
theorem cnt_or (n s j : Nat) (hb : s.testBit j = false) (hj : j < n) : ∀ (d i : Nat), n - i = d → remZ n (s ||| 2 ^ j) i + (if i ≤ j then 1 else 0) = remZ n s i
  | 0, i, hd => by
    unfold remZ
    rw [show n - i = 0 by omega, if_neg (by omega)]
    rfl
  | d + 1, i, hd => by
    have ih := cnt_or n s j hb hj d (i + 1) (by omega)
    rw [cnt_step n _ i (by omega), cnt_step n s i (by omega), Nat.testBit_or, Nat.testBit_two_pow]
    by_cases e : j = i
    · subst e
      rw [if_neg (by omega)] at ih
      rw [hb]
      simp
      omega
    · by_cases c : i ≤ j
      · rw [if_pos (by omega)] at ih
        rw [if_pos c]
        simp [e]
        omega
      · rw [if_neg (by omega)] at ih
        rw [if_neg c]
        simp [e]
        omega
def phiF (n : Nat) (f : Fr) : Nat := remZ n f.1.1 f.2 * (1 + eZ (remZ n f.1.1 0 - 1))
def phiZ (n : Nat) : List Fr → Nat
  | [] => 0
  | f :: r => phiF n f + phiZ n r
theorem phi_due (ops : List S65) : ∀ (l : List Fr) (o : List Int), phiZ ops.length (dueZ ops l o).2.1 ≤ phiZ ops.length l
  | [], o => Nat.le_refl _
  | (p, i) :: r, o => by
    rw [dueZ]
    split
    · have h := cnt_mono ops.length p.1 (nexZ ops p.1 i - i) i
      have h2 := (nextD_facts ops p.1 (ops.length - i) i).1
      rw [show i + (nexZ ops p.1 i - i) = nexZ ops p.1 i by unfold nexZ; omega] at h
      exact Nat.add_le_add_right (Nat.mul_le_mul_right _ h) _
    · refine Nat.le_trans (phi_due ops r _) ?_
      rw [phiZ]; omega
/-- A try, and what it leaves. -/
theorem phi_try {n s i : Nat} (hi : i < n) (hb : s.testBit i = false) (cs cs' : List Int) (r : List Fr) :
    phiZ n (((s, cs), i + 1) :: r) + 1 ≤ phiZ n (((s, cs), i) :: r) ∧ phiZ n (((s ||| 2 ^ i, cs'), 0) :: ((s, cs), i + 1) :: r) + 1 ≤ phiZ n (((s, cs), i) :: r) := by
  have h1 := cnt_step n s i hi
  rw [hb, if_neg (by simp)] at h1
  have h2 := cnt_or n s i hb hi _ 0 rfl
  rw [if_pos (by omega)] at h2
  have hm := cnt_mono n s i 0
  rw [Nat.zero_add] at hm
  have e : phiF n ((s, cs), i) = phiF n ((s, cs), i + 1) + (1 + eZ (remZ n s 0 - 1)) := by
    show remZ n s i * _ = remZ n s (i + 1) * _ + _
    rw [h1, Nat.add_mul, Nat.one_mul, Nat.add_comm]
  have e2 : phiF n ((s ||| 2 ^ i, cs'), 0) = eZ (remZ n s 0 - 1) := by
    show remZ n (s ||| 2 ^ i) 0 * (1 + eZ (remZ n (s ||| 2 ^ i) 0 - 1)) = _
    rw [show remZ n (s ||| 2 ^ i) 0 = remZ n s 0 - 1 by omega]
    cases remZ n s 0 - 1 with
    | zero => simp [eZ]
    | succ m => simp [eZ]
  constructor
  · rw [phiZ, phiZ, e]; omega
  · rw [phiZ, phiZ, phiZ, e, e2]; omega
structure SI (q : LinQ) (st : LinS) : Prop where
  ov : st.over = true → st.kind = 1 ∨ st.kind = 2 ∨ st.kind = 3 ∨ st.kind = 4
  k1 : st.over = true → st.kind = 1 → ∃ p, Pth q r0Z st.order p ∧ FullP q.ops p.1
  k2 : st.over = true → st.kind = 2 → ∀ o p, Pth q r0Z o p → ¬ FullP q.ops p.1
  k4 : st.over = true → st.kind = 4 → (st.tries : Int) = q.budget ∧ st.tries < eZ q.ops.length
  te : st.tries ≤ eZ q.ops.length
  sk : st.over = false → StkP q st.l st.order
  ci : st.over = false → CI q st.seen st.l
  ph : st.over = false → st.tries + phiZ q.ops.length st.l ≤ eZ q.ops.length
theorem no_ov {b : Bool} {P : Prop} (h : b = true) (h' : b = false) : P := by rw [h] at h'; cases h'
theorem SI.fin {q : LinQ} {st : LinS} (h : SI q st) (ho : st.over = true) : SI q (finZ st) :=
  ⟨h.ov, h.k1, h.k2, h.k4, h.te, fun e => no_ov ho e, fun e => no_ov ho e, fun e => no_ov ho e⟩
/-- A search that ends without an order. -/
theorem SI.stop {q : LinQ} {st : LinS} (k : Int) (ho : st.over = true) (hk : st.kind = k) (h : k = 2 ∨ k = 3 ∨ k = 4) (h2 : k = 2 → ∀ o p, Pth q r0Z o p → ¬ FullP q.ops p.1) (h4 : k = 4 → (st.tries : Int) = q.budget ∧ st.tries < eZ q.ops.length) (ht : st.tries ≤ eZ q.ops.length) : SI q st :=
  ⟨fun _ => by omega, fun _ e => (by omega), fun _ e => h2 (by omega), fun _ e => h4 (by omega), ht, fun e => no_ov ho e, fun e => no_ov ho e, fun e => no_ov ho e⟩
theorem due_nil (ops : List S65) : ∀ (l : List Fr) (o : List Int), (dueZ ops l o).1 = false → (dueZ ops l o).2.1 = []
  | [], o, _ => rfl
  | (p, i) :: r, o, h => by
    rw [dueZ] at h ⊢
    by_cases c : nexZ ops p.1 i < ops.length
    · rw [if_pos c] at h; cases h
    · rw [if_neg c] at h ⊢; exact due_nil ops r _ h
theorem SI.ready {q : LinQ} {st : LinS} (h : SI q st) (hW : LinW q st) : SI q (readyZ q st).1 := by
  cases ho : st.over with
  | true => rw [readyZ_over ho]; exact h.fin ho
  | false =>
    have hph := phi_due q.ops st.l st.order
    have hp := h.ph ho
    cases hd : (dueZ q.ops st.l st.order).1 with
    | false =>
      rw [readyZ_none ho hd]
      refine SI.fin (SI.stop 2 rfl rfl (.inl rfl) (fun _ o p hp hf => ?_) (fun e => (by cases e)) h.te) rfl
      have hc := (h.ci ho).due (o := st.order)
      rw [due_nil q.ops st.l st.order hd] at hc
      exact hc.nf p (CI.none hc o r0Z p hc.root hp) hf
    | true =>
      by_cases hb : (st.tries : Int) = q.budget
      · rw [readyZ_out ho hd hb]
        refine SI.fin (SI.stop 4 rfl rfl (.inr (.inr rfl)) (fun e => by cases e) (fun _ => ⟨hb, ?_⟩) h.te) rfl
        obtain ⟨p, i, r, hl, hi, hf⟩ := (dueZ_facts q.ops st.l st.order hW.fr).2.2.2 hd
        rw [hl, phiZ] at hph
        have h1 := cnt_step q.ops.length p.1 i hi
        rw [(free_iff.mp hf).1, if_neg (by simp)] at h1
        have : 1 ≤ phiF q.ops.length (p, i) := by
          show 1 ≤ remZ q.ops.length p.1 i * (1 + _)
          rw [h1]
          exact Nat.mul_pos (by omega) (by omega)
        show st.tries < _
        omega
      · rw [readyZ_go ho hd hb]
        exact ⟨fun e => no_ov e ho, fun e => no_ov e ho, fun e => no_ov e ho, fun e => no_ov e ho, h.te, fun _ => (h.sk ho).due, fun _ => (h.ci ho).due, fun _ => Nat.le_trans (Nat.add_le_add_left hph _) hp⟩
theorem SI.enter {q : LinQ} {st : LinS} {p : Ps} (ho : st.over = false) (hs : p ∈ st.seen) (hr : r0Z ∈ st.seen) (hnf : ∀ x ∈ st.seen, x ≠ p → ¬ FullP q.ops x.1) (hsk : StkP q ((p, 0) :: st.l) st.order) (hmv : ∀ x ∈ st.seen, ∀ j p', Mv q x j p' → p' ∈ st.seen ∨ ∃ i, (x, i) ∈ (p, 0) :: st.l ∧ i ≤ j) (hp : st.tries + phiZ q.ops.length ((p, 0) :: st.l) ≤ eZ q.ops.length) : SI q (enterZ q st p) := by
  have hte : st.tries ≤ eZ q.ops.length := by omega
  unfold enterZ
  by_cases c : p.1 &&& mustZ q.ops = mustZ q.ops
  · rw [if_pos c]
    exact ⟨fun _ => .inl rfl, fun _ _ => ⟨p, hsk.pth, c⟩, fun _ e => (by cases e), fun _ e => (by cases e), hte, fun e => (by cases e), fun e => (by cases e), fun e => (by cases e)⟩
  · rw [if_neg c]
    have no : ∀ {P : Prop}, st.over = true → P := fun e => by rw [ho] at e; cases e
    exact ⟨fun e => no e, fun e => no e, fun e => no e, fun e => no e, hte, fun _ => hsk, fun _ => ⟨hr, fun x hx => (by
      by_cases e : x = p
      · rw [e]; exact c
      · exact hnf x hx e), hmv⟩, fun _ => hp⟩
theorem SI.try {q : LinQ} {st : LinS} (h : SI q st) (hW : LinW q st) (hc : (thru q.L).2.2 = 0) (ho : st.over = false) {p : Ps} {i : Nat} {r : List Fr} (hl : st.l = (p, i) :: r) (hi : i < q.ops.length) (hf : freeZ q.ops p.1 i = true) : SI q (tryZ q st) := by
  obtain ⟨s, cs⟩ := p
  have h4 : cs.length = 4 := (hW.fr ((s, cs), i) (by simp [hl])).2.1
  have hfb : s.testBit i = false := (free_iff.mp hf).1
  have hp := h.ph ho
  rw [hl] at hp
  have hsk := h.sk ho
  rw [hl] at hsk
  have hci := h.ci ho
  rw [hl] at hci
  obtain ⟨rk, cs', rr, ru, hv, h4', _⟩ := vstep_good q.L hc cs h4 (rd_T65 q.ops (i : Int)).f1 (rd_T65 q.ops (i : Int)).f2 q.fuel
  obtain ⟨f1, f2⟩ := phi_try hi hfb cs cs' r
  have no : ∀ {P : Prop}, st.over = true → P := fun e => by rw [ho] at e; cases e
  have hfun : ∀ p', Mv q (s, cs) i p' → rk = 1 ∧ ((rd_T65 q.ops (i : Int)).f3 = false ∨ rr = (rd_T65 q.ops (i : Int)).f4) ∧ p' = (s ||| 2 ^ i, cs') := fun p' hm => by
    obtain ⟨_, _, rr2, ru2, cs2, hv2, hr2, e⟩ := hm
    rw [show ((s, cs) : Ps).2 = cs from rfl, hv] at hv2
    injection hv2 with hv2
    injection hv2 with a1 a2
    injection a2 with a2 a3
    injection a3 with a3 a4
    subst a2 a3
    exact ⟨a1, hr2, e⟩
  -- no move to a new position
  have quiet : (∀ p', Mv q (s, cs) i p' → p' ∈ st.seen) → SI q { st with l := ((s, cs), i + 1) :: r, tries := st.tries + 1 } := fun hm =>
    ⟨fun e => no e, fun e => no e, fun e => no e, fun e => no e, by show st.tries + 1 ≤ _; omega, fun _ => hsk.idx _, fun _ => ⟨hci.root, hci.nf, fun x hx j p' hmx => (by
      rcases hci.mv x hx j p' hmx with e | ⟨i1, a1, a2⟩
      · exact .inl e
      · rcases List.mem_cons.mp a1 with e | e
        · injection e with e1 e2
          subst e1 e2
          by_cases c : i1 = j
          · subst c; exact .inl (hm p' hmx)
          · exact .inr ⟨i1 + 1, by simp, by omega⟩
        · exact .inr ⟨i1, List.mem_cons_of_mem _ e, a2⟩)⟩, fun _ => (show st.tries + 1 + phiZ q.ops.length (((s, cs), i + 1) :: r) ≤ eZ q.ops.length by omega)⟩
  unfold tryZ
  rw [hl]
  dsimp only
  rw [hv]
  dsimp only
  by_cases k3 : rk = 3
  · rw [if_pos k3]
    exact SI.stop 3 rfl rfl (.inr (.inl rfl)) (fun e => by cases e) (fun e => by cases e) (by show st.tries + 1 ≤ _; omega)
  rw [if_neg k3]
  by_cases k1 : rk ≠ 1 ∨ ((rd_T65 q.ops (i : Int)).f3 = true ∧ rr ≠ (rd_T65 q.ops (i : Int)).f4)
  · rw [if_pos k1]
    refine quiet (fun p' hm => ?_)
    obtain ⟨a1, a2, _⟩ := hfun p' hm
    rcases k1 with e | ⟨e1, e2⟩
    · exact absurd a1 e
    · rcases a2 with a2 | a2
      · rw [a2] at e1; cases e1
      · exact absurd a2 e2
  rw [if_neg k1]
  by_cases km : (s ||| 2 ^ i, cs') ∈ st.seen
  · rw [if_pos km]
    exact quiet (fun p' hm => by rw [(hfun p' hm).2.2]; exact km)
  rw [if_neg km]
  have hmv : Mv q (s, cs) i (s ||| 2 ^ i, cs') := ⟨hi, hf, rr, ru, cs', by
    have : rk = 1 := Classical.byContradiction fun e => k1 (.inl e)
    rw [← this]; exact hv, by
    cases hd : (rd_T65 q.ops (i : Int)).f3 with
    | false => exact .inl rfl
    | true => exact .inr (Classical.byContradiction fun e => k1 (.inr ⟨hd, e⟩)), rfl⟩
  refine SI.enter ho (by simp) (by simp [hci.root]) (fun x hx hxp => ?_) ?_ (fun x hx j p' hmx => ?_) (show st.tries + 1 + phiZ q.ops.length (((s ||| 2 ^ i, cs'), 0) :: ((s, cs), i + 1) :: r) ≤ eZ q.ops.length by omega)
  · rcases List.mem_append.mp hx with e | e
    · exact hci.nf x e
    · simp at e; exact absurd e hxp
  · exact ⟨st.order, i, rfl, hmv, hsk.idx _⟩
  · rcases List.mem_append.mp hx with e | e
    · rcases hci.mv x e j p' hmx with e | ⟨i1, a1, a2⟩
      · exact .inl (List.mem_append_left _ e)
      · rcases List.mem_cons.mp a1 with e | e
        · injection e with e1 e2
          subst e1 e2
          by_cases c : i1 = j
          · subst c
            rw [(hfun p' hmx).2.2]
            exact .inl (by simp)
          · exact .inr ⟨i1 + 1, by simp, by omega⟩
        · exact .inr ⟨i1, List.mem_cons_of_mem _ (List.mem_cons_of_mem _ e), a2⟩
    · simp at e
      subst e
      exact .inr ⟨0, by simp, Nat.zero_le _⟩
theorem SI.go {q : LinQ} (hc : (thru q.L).2.2 = 0) : ∀ (n : Nat) {st : LinS}, SI q st → LinW q st → SI q (goZ q n st)
  | 0, st, h, hW => h.ready hW
  | n + 1, st, h, hW => by
    rw [goZ]
    split
    · rename_i e
      obtain ⟨h1, p, i, r, h2, h3, h4⟩ := hW.ready.2 e
      exact SI.go hc n ((h.ready hW).try hW.ready.1 hc ((readyZ_tries q st).2.1 e) h2 h3 h4) (hW.ready.1.try hc h1 h2 h3)
    · exact h.ready hW
theorem cnt_full (n : Nat) : remZ n 0 0 = n := by
  have : ∀ d i : Nat, cntD 0 d i = d := by
    intro d
    induction d with
    | zero => intro i; rfl
    | succ d ih => intro i; rw [cntD, ih]; simp; omega
  unfold remZ
  rw [this]; rfl
theorem SI.beg (q : LinQ) : SI q (begZ q) := by
  unfold begZ
  refine SI.enter rfl (by simp) (by simp) (fun x hx hxp => ?_) ⟨rfl, rfl⟩ (fun x hx j p' hm => ?_) ?_
  · simp at hx; exact absurd hx hxp
  · simp at hx; subst hx; exact .inr ⟨0, by simp, Nat.zero_le _⟩
  · show 0 + (remZ q.ops.length 0 0 * (1 + eZ (remZ q.ops.length 0 0 - 1)) + 0) ≤ _
    rw [cnt_full]
    cases q.ops.length with
    | zero => simp [eZ]
    | succ m => simp [eZ]
theorem fullZ_SI {L : List S36} {fuel budget : Int} {ops : List S65} (h : newE L fuel budget ops = 0) : SI ⟨L, fuel, budget, ops⟩ (fullZ ⟨L, fuel, budget, ops⟩) := by
  obtain ⟨h1, h2, h3, h4⟩ := newE_0 h
  have hb := LinW.beg (q := ⟨L, fuel, budget, ops⟩) h3 h2.2.2.1 h2.2.2.2
  exact SI.go h1 _ (SI.go h1 0 (SI.beg _) hb) (newE_W h)
end Go.Proofs.Ytddkoimaghcbeaa.PVmSteps
