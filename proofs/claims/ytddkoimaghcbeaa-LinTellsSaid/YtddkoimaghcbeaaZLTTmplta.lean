/- A part of what the law LinTells stands on, only as far as it is needed (the words and walks were printed or written in this seat; this text was cut by a program of this session, wip/bin/trim.py). No condition beyond what each theorem says. -/
import Derived.Test.YtddkoimaghcbeaaZLTPVmStepsx0
import Derived.Test.YtddkoimaghcbeaaZLTPVmStepsx2
import Derived.Test.YtddkoimaghcbeaaZLTPVmStepsx3
import Derived.Test.YtddkoimaghcbeaaZLTPVmStepsx4
import Derived.Test.YtddkoimaghcbeaaZLTPVmStepsx5
import Derived.Test.YtddkoimaghcbeaaZLTPVmStepsx6
import Derived.Test.YtddkoimaghcbeaaZLTTmpljb
namespace Go.Proofs.Ytddkoimaghcbeaa.PVmSteps
open Go.RowKit Go.Proofs.YtddkoimaghcbeaaW.PrintWords Go.Proofs.YtddkoimaghcbeaaW.PrintLast Go.Proofs.YtddkoimaghcbeaaW.PrintMore
set_option linter.unusedVariables false
set_option linter.unusedSimpArgs false
structure RfS where
  was : List Ps
  tries : Nat
  ord : List Int
/-- The places from i on (k of them), at a position. -/
def rlo (q : LinQ) (G : Ps → List Int → RfS → Int × RfS) (p : Ps) (o : List Int) : Nat → Nat → RfS → Int × RfS
  | 0, _, s => (0, s)
  | k + 1, i, s =>
    if freeZ q.ops p.1 i = false then rlo q G p o k (i + 1) s
    else if (s.tries : Int) = q.budget then (4, s)
    else match vstep q.L p.2 (rd_T65 q.ops (i : Int)).f1 (rd_T65 q.ops (i : Int)).f2 q.fuel with
      | none => (0, s)
      | some (kk, cs, rr, _) =>
        if kk = 3 then (3, { s with tries := s.tries + 1 })
        else if kk ≠ 1 ∨ ((rd_T65 q.ops (i : Int)).f3 = true ∧ rr ≠ (rd_T65 q.ops (i : Int)).f4) then rlo q G p o k (i + 1) { s with tries := s.tries + 1 }
        else if (p.1 ||| 2 ^ i, cs) ∈ s.was then rlo q G p o k (i + 1) { s with tries := s.tries + 1 }
        else if (G (p.1 ||| 2 ^ i, cs) (o ++ [(i : Int)]) { s with tries := s.tries + 1 }).1 ≠ 0 then G (p.1 ||| 2 ^ i, cs) (o ++ [(i : Int)]) { s with tries := s.tries + 1 }
        else rlo q G p o k (i + 1) (G (p.1 ||| 2 ^ i, cs) (o ++ [(i : Int)]) { s with tries := s.tries + 1 }).2
/-- From a position; d: more than the places that are left. -/
def rgo (q : LinQ) : Nat → Ps → List Int → RfS → Int × RfS
  | 0, _, _, s => (0, s)
  | d + 1, p, o, s => if p.1 &&& mustZ q.ops = mustZ q.ops then (1, { was := s.was ++ [p], tries := s.tries, ord := o }) else rlo q (rgo q d) p o q.ops.length 0 { s with was := s.was ++ [p] }
theorem goZ_same (q : LinQ) (N : Nat) {st st' : LinS} (h : readyZ q st = readyZ q st') : goZ q N st = goZ q N st' := by
  cases N with
  | zero => rw [goZ, goZ, h]
  | succ N => rw [goZ, goZ, h]
theorem ready_l (q : LinQ) {st st' : LinS} (h0 : st.over = false) (h0' : st'.over = false) (hs : st.seen = st'.seen) (ht : st.tries = st'.tries) (hk : st.kind = st'.kind) (hd : dueZ q.ops st.l st.order = dueZ q.ops st'.l st'.order) : readyZ q st = readyZ q st' := by
  obtain ⟨a1, a2, a3, a4, a5, a6⟩ := st
  obtain ⟨b1, b2, b3, b4, b5, b6⟩ := st'
  dsimp only at h0 h0' hs ht hk hd
  subst h0 h0' hs ht hk
  unfold readyZ
  dsimp only
  rw [if_neg (by simp), if_neg (by simp), hd]
theorem go_fin (q : LinQ) (N : Nat) {st : LinS} (h : st.over = true) : goZ q N st = finZ st := by
  have hr : readyZ q st = (finZ st, false) := by unfold readyZ; rw [if_pos h]
  cases N with
  | zero => rw [goZ, hr]
  | succ N => rw [goZ, hr]; rfl
/-- What the program's search comes to, told of the document's. -/
def EndsZ (q : LinQ) (N : Nat) (st : LinS) (rest : List Fr) (o : List Int) (r : Int × RfS) : Prop :=
  (r.1 ≠ 0 → (goZ q N st).over = true ∧ (goZ q N st).kind = r.1 ∧ (goZ q N st).tries = r.2.tries ∧ (r.1 = 1 → (goZ q N st).order = r.2.ord)) ∧
  (r.1 = 0 → (r.2.tries : Int) ≤ q.budget ∧ ∃ M : Nat, (q.budget - (r.2.tries : Int)) ≤ (M : Int) ∧ goZ q N st = goZ q M ⟨r.2.was, rest, o, r.2.tries, false, 0⟩)
theorem EndsZ.back {q : LinQ} {N M : Nat} {st st' : LinS} {rest : List Fr} {o : List Int} {r : Int × RfS} (h : EndsZ q M st' rest o r) (e : goZ q N st = goZ q M st') : EndsZ q N st rest o r := by
  unfold EndsZ at h ⊢
  rw [e]; exact h
theorem rlo_ends {q : LinQ} (hc : (thru q.L).2.2 = 0) {d : Nat} {p : Ps} {o : List Int} {rest : List Fr} (h4 : p.2.length = 4) (hp : remZ q.ops.length p.1 0 ≤ d)
    (IH : ∀ (p' : Ps) (o' : List Int) (s : RfS) (rest : List Fr) (N : Nat), p'.2.length = 4 → remZ q.ops.length p'.1 0 < d → (s.tries : Int) ≤ q.budget → q.budget - s.tries ≤ (N : Int) → EndsZ q N (enterZ q ⟨s.was ++ [p'], rest, o', s.tries, false, 0⟩ p') rest o'.dropLast (rgo q d p' o' s)) :
    ∀ (k i : Nat) (s : RfS) (N : Nat), i + k = q.ops.length → (s.tries : Int) ≤ q.budget → q.budget - s.tries ≤ (N : Int) → EndsZ q N ⟨s.was, (p, i) :: rest, o, s.tries, false, 0⟩ rest o.dropLast (rlo q (rgo q d) p o k i s)
  | 0, i, s, N, hi, ht, hN => by
    rw [rlo]
    refine ⟨fun h => absurd rfl h, fun _ => ⟨ht, N, hN, goZ_same q N (ready_l q rfl rfl rfl rfl rfl (dueZ_pop q.ops (by omega)))⟩⟩
  | k + 1, i, s, N, hi, ht, hN => by
    have hil : i < q.ops.length := by omega
    rw [rlo]
    by_cases hf : freeZ q.ops p.1 i = false
    · rw [if_pos hf]
      exact (rlo_ends hc h4 hp IH k (i + 1) s N (by omega) ht hN).back (goZ_same q N (ready_l q rfl rfl rfl rfl rfl (dueZ_step q.ops hil hf)))
    rw [if_neg hf]
    have hf : freeZ q.ops p.1 i = true := by simpa using hf
    have hd := dueZ_here q.ops (r := rest) (o := o) hil hf
    by_cases hb : (s.tries : Int) = q.budget
    · rw [if_pos hb]
      have hr : readyZ q ⟨s.was, (p, i) :: rest, o, s.tries, false, 0⟩ = (finZ ⟨s.was, (p, i) :: rest, o, s.tries, true, 4⟩, false) := by
        unfold readyZ
        dsimp only
        rw [if_neg (by simp), hd]
        dsimp only
        rw [if_pos hb]
      have hg : goZ q N ⟨s.was, (p, i) :: rest, o, s.tries, false, 0⟩ = finZ ⟨s.was, (p, i) :: rest, o, s.tries, true, 4⟩ := by
        cases N with
        | zero => rw [goZ, hr]
        | succ N => rw [goZ, hr]; rfl
      refine ⟨fun _ => ?_, fun h => by cases h⟩
      rw [hg]
      exact ⟨rfl, rfl, rfl, fun h => by cases h⟩
    rw [if_neg hb]
    obtain ⟨M, rfl⟩ : ∃ M, N = M + 1 := ⟨N - 1, by omega⟩
    have hr : readyZ q ⟨s.was, (p, i) :: rest, o, s.tries, false, 0⟩ = (⟨s.was, (p, i) :: rest, o, s.tries, false, 0⟩, true) := by
      unfold readyZ
      dsimp only
      rw [if_neg (by simp), hd]
      dsimp only
      rw [if_neg hb]
    have hg : goZ q (M + 1) ⟨s.was, (p, i) :: rest, o, s.tries, false, 0⟩ = goZ q M (tryZ q ⟨s.was, (p, i) :: rest, o, s.tries, false, 0⟩) := by rw [goZ, hr]; rfl
    have ht1 : ((s.tries + 1 : Nat) : Int) ≤ q.budget := by omega
    have hM : q.budget - ((s.tries + 1 : Nat) : Int) ≤ (M : Int) := by omega
    unfold tryZ at hg
    dsimp only at hg
    obtain ⟨rk, cs, rr, ru, hv, hcs, _⟩ := vstep_good q.L hc p.2 h4 (rd_T65 q.ops (i : Int)).f1 (rd_T65 q.ops (i : Int)).f2 q.fuel
    rw [hv] at hg ⊢
    dsimp only at hg ⊢
    by_cases c3 : rk = 3
    · rw [if_pos c3] at hg ⊢
      refine ⟨fun _ => ?_, fun h => by cases h⟩
      rw [hg, go_fin q M rfl]
      exact ⟨rfl, rfl, rfl, fun h => by cases h⟩
    rw [if_neg c3] at hg ⊢
    have next := rlo_ends (o := o) (rest := rest) hc h4 hp IH k (i + 1) { s with tries := s.tries + 1 } M (by omega) ht1 hM
    by_cases c1 : rk ≠ 1 ∨ ((rd_T65 q.ops (i : Int)).f3 = true ∧ rr ≠ (rd_T65 q.ops (i : Int)).f4)
    · rw [if_pos c1] at hg ⊢
      exact next.back hg
    rw [if_neg c1] at hg ⊢
    by_cases cs_ : (p.1 ||| 2 ^ i, cs) ∈ s.was
    · rw [if_pos cs_] at hg ⊢
      exact next.back hg
    rw [if_neg cs_] at hg ⊢
    have hbit : p.1.testBit i = false := (free_iff.mp hf).1
    have hrem := cnt_or q.ops.length p.1 i hbit hil q.ops.length 0 (by omega)
    rw [if_pos (Nat.zero_le _)] at hrem
    have hin := IH (p.1 ||| 2 ^ i, cs) (o ++ [(i : Int)]) { s with tries := s.tries + 1 } ((p, i + 1) :: rest) M hcs (by show remZ _ (p.1 ||| 2 ^ i) 0 < d; omega) ht1 hM
    rw [List.dropLast_concat] at hin
    generalize rgo q d (p.1 ||| 2 ^ i, cs) (o ++ [(i : Int)]) { s with tries := s.tries + 1 } = r at *
    obtain ⟨kd, s'⟩ := r
    dsimp only at hin ⊢
    by_cases ck : kd = 0
    · subst ck
      rw [if_neg (by simp)]
      obtain ⟨ht2, M2, hM2, hg2⟩ := hin.2 rfl
      exact (rlo_ends hc h4 hp IH k (i + 1) s' M2 (by omega) ht2 hM2).back (hg.trans hg2)
    · rw [if_pos ck]
      refine ⟨fun _ => ?_, fun h => absurd h ck⟩
      rw [hg]; exact hin.1 ck
theorem rgo_ends {q : LinQ} (hc : (thru q.L).2.2 = 0) : ∀ (d : Nat) (p : Ps) (o : List Int) (s : RfS) (rest : List Fr) (N : Nat), p.2.length = 4 → remZ q.ops.length p.1 0 < d → (s.tries : Int) ≤ q.budget → q.budget - s.tries ≤ (N : Int) → EndsZ q N (enterZ q ⟨s.was ++ [p], rest, o, s.tries, false, 0⟩ p) rest o.dropLast (rgo q d p o s)
  | 0, _, _, _, _, _, _, h, _, _ => absurd h (Nat.not_lt_zero _)
  | d + 1, p, o, s, rest, N, h4, hd, ht, hN => by
    rw [rgo]
    unfold enterZ
    by_cases hf : p.1 &&& mustZ q.ops = mustZ q.ops
    · rw [if_pos hf, if_pos hf]
      refine ⟨fun _ => ?_, fun h => by cases h⟩
      rw [go_fin q N rfl]
      exact ⟨rfl, rfl, rfl, fun _ => rfl⟩
    · rw [if_neg hf, if_neg hf]
      exact rlo_ends hc h4 (Nat.le_of_lt_succ hd) (fun p' o' s' rest' N' a b c e => rgo_ends hc d p' o' s' rest' N' a b c e) q.ops.length 0 { s with was := s.was ++ [p] } N (by omega) ht hN
/-- The document's verdict: kind, order, tries. -/
def rVer (q : LinQ) : Int × List Int × Nat := (if (rgo q (q.ops.length + 1) r0Z [] ⟨[], 0, []⟩).1 = 0 then 2 else (rgo q (q.ops.length + 1) r0Z [] ⟨[], 0, []⟩).1, (rgo q (q.ops.length + 1) r0Z [] ⟨[], 0, []⟩).2.ord, (rgo q (q.ops.length + 1) r0Z [] ⟨[], 0, []⟩).2.tries)
theorem rlo_ord {q : LinQ} {G : Ps → List Int → RfS → Int × RfS} (hG : ∀ p o s, (G p o s).1 ≠ 1 → (G p o s).2.ord = s.ord) {p : Ps} {o : List Int} : ∀ (k i : Nat) (s : RfS), (rlo q G p o k i s).1 ≠ 1 → (rlo q G p o k i s).2.ord = s.ord
  | 0, i, s, _ => rfl
  | k + 1, i, s, h => by
    rw [rlo] at h ⊢
    by_cases hf : freeZ q.ops p.1 i = false
    · rw [if_pos hf] at h ⊢; exact rlo_ord hG k (i + 1) s h
    rw [if_neg hf] at h ⊢
    by_cases hb : (s.tries : Int) = q.budget
    · rw [if_pos hb]
    rw [if_neg hb] at h ⊢
    cases hv : vstep q.L p.2 (rd_T65 q.ops (i : Int)).f1 (rd_T65 q.ops (i : Int)).f2 q.fuel with
    | none => rfl
    | some x =>
      obtain ⟨kk, cs, rr, ru⟩ := x
      rw [hv] at h
      dsimp only at h ⊢
      by_cases c3 : kk = 3
      · rw [if_pos c3]
      rw [if_neg c3] at h ⊢
      by_cases c1 : kk ≠ 1 ∨ ((rd_T65 q.ops (i : Int)).f3 = true ∧ rr ≠ (rd_T65 q.ops (i : Int)).f4)
      · rw [if_pos c1] at h ⊢; exact rlo_ord hG k (i + 1) _ h
      rw [if_neg c1] at h ⊢
      by_cases cs_ : (p.1 ||| 2 ^ i, cs) ∈ s.was
      · rw [if_pos cs_] at h ⊢; exact rlo_ord hG k (i + 1) _ h
      rw [if_neg cs_] at h ⊢
      by_cases ck : (G (p.1 ||| 2 ^ i, cs) (o ++ [(i : Int)]) { s with tries := s.tries + 1 }).1 = 0
      · rw [if_neg (by simpa using ck)] at h ⊢
        have e := hG (p.1 ||| 2 ^ i, cs) (o ++ [(i : Int)]) { s with tries := s.tries + 1 } (by rw [ck]; decide)
        exact (rlo_ord hG k (i + 1) _ h).trans e
      · rw [if_pos ck] at h ⊢; exact hG _ _ _ h
theorem rgo_ord {q : LinQ} : ∀ (d : Nat) (p : Ps) (o : List Int) (s : RfS), (rgo q d p o s).1 ≠ 1 → (rgo q d p o s).2.ord = s.ord
  | 0, _, _, _, _ => rfl
  | d + 1, p, o, s, h => by
    rw [rgo] at h ⊢
    by_cases hf : p.1 &&& mustZ q.ops = mustZ q.ops
    · rw [if_pos hf] at h; exact absurd rfl h
    · rw [if_neg hf] at h ⊢
      exact rlo_ord (rgo_ord d) q.ops.length 0 _ h
theorem rVer_is {L : List S36} {fuel budget : Int} {ops : List S65} (h : newE L fuel budget ops = 0) :
    (fullZ ⟨L, fuel, budget, ops⟩).kind = (rVer ⟨L, fuel, budget, ops⟩).1 ∧ (fullZ ⟨L, fuel, budget, ops⟩).tries = (rVer ⟨L, fuel, budget, ops⟩).2.2 ∧ (if (fullZ ⟨L, fuel, budget, ops⟩).kind = 1 then (fullZ ⟨L, fuel, budget, ops⟩).order else []) = (rVer ⟨L, fuel, budget, ops⟩).2.1 := by
  obtain ⟨hc, ⟨_, _, hb0, hb1⟩, _, _⟩ := newE_0 h
  rw [fullZ_beg]
  have he := rgo_ends (q := ⟨L, fuel, budget, ops⟩) hc (ops.length + 1) r0Z [] ⟨[], 0, []⟩ [] 2147483648 rfl (by show remZ ops.length 0 0 < _; rw [cnt_full]; omega) hb0 (by show budget - ((0 : Nat) : Int) ≤ _; omega)
  have ho := rgo_ord (q := ⟨L, fuel, budget, ops⟩) (ops.length + 1) r0Z [] ⟨[], 0, []⟩
  have e1 : enterZ ⟨L, fuel, budget, ops⟩ ⟨([] : List Ps) ++ [r0Z], [], [], 0, false, 0⟩ r0Z = begZ ⟨L, fuel, budget, ops⟩ := rfl
  have he' : EndsZ ⟨L, fuel, budget, ops⟩ 2147483648 (begZ ⟨L, fuel, budget, ops⟩) [] [] (rgo ⟨L, fuel, budget, ops⟩ (ops.length + 1) r0Z [] ⟨[], 0, []⟩) := he
  unfold rVer
  dsimp only
  generalize rgo ⟨L, fuel, budget, ops⟩ (ops.length + 1) r0Z [] ⟨[], 0, []⟩ = r at *
  obtain ⟨kd, s⟩ := r
  dsimp only at ho ⊢
  by_cases ck : kd = 0
  · subst ck
    obtain ⟨_, M, _, hg⟩ := he'.2 rfl
    have hr : ∀ M, goZ ⟨L, fuel, budget, ops⟩ M ⟨s.was, [], [], s.tries, false, 0⟩ = finZ ⟨s.was, [], [], s.tries, true, 2⟩ := fun M => by
      have : readyZ ⟨L, fuel, budget, ops⟩ ⟨s.was, [], [], s.tries, false, 0⟩ = (finZ ⟨s.was, [], [], s.tries, true, 2⟩, false) := rfl
      cases M with
      | zero => rw [goZ, this]
      | succ M => rw [goZ, this]; rfl
    rw [hr] at hg
    rw [hg]
    refine ⟨rfl, rfl, ?_⟩
    rw [ho (by decide)]
    rfl
  · rw [if_neg ck]
    obtain ⟨_, h1, h2, h3⟩ := he'.1 ck
    dsimp only at h1 h2 h3
    refine ⟨h1, h2, ?_⟩
    by_cases c1 : kd = 1
    · rw [if_pos (h1.trans c1), h3 c1]
    · rw [if_neg (by rw [h1]; exact c1), ho c1]
end Go.Proofs.Ytddkoimaghcbeaa.PVmSteps
