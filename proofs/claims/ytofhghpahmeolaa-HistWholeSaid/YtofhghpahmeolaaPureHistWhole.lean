/- The law HistWhole answers true at every input: each event belongs to one operation, and operations of one client do not lie over one another. No condition. The printed texts and the row beside it were written by wip/bin/pp.sh of this session. -/
import Derived.Test.YtofhghpahmeolaaPHistWholex2
namespace Go.Proofs.Ytofhghpahmeolaa.Pure
open Go.RowKit Go.Proofs.Ytofhghpahmeolaa.PHistWhole Go.Proofs.YtofhghpahmeolaaW.PrintWords Go.Proofs.YtofhghpahmeolaaW.PrintLast Go.Proofs.YtofhghpahmeolaaW.PrintMore
set_option linter.unusedVariables false
set_option linter.unusedSimpArgs false
theorem w64 {i : Int} (h : -9223372036854775808 ≤ i) (h' : i ≤ 9223372036854775807) : wrap64 i = i := by unfold wrap64; omega
theorem wf_u64 {a : Int} (h : (Lit.int .u64 a).wf = true) : 0 ≤ a ∧ a < 18446744073709551616 := by
  simp [Lit.wf, IntKind.min, IntKind.max, IntKind.signed, IntKind.bits] at h; omega
theorem wf_i64 {a : Int} (h : (Lit.int .i64 a).wf = true) : -9223372036854775808 ≤ a ∧ a ≤ 9223372036854775807 := by
  simp [Lit.wf, IntKind.min, IntKind.max, IntKind.signed, IntKind.bits] at h; omega
theorem wf_u32 {a : Int} (h : (Lit.int .u32 a).wf = true) : 0 ≤ a ∧ a < 4294967296 := by
  simp [Lit.wf, IntKind.min, IntKind.max, IntKind.signed, IntKind.bits] at h; omega
theorem wu64 (n : Int) : IntKind.u64.wrap n = n % 18446744073709551616 := by simp [IntKind.wrap, IntKind.bits, IntKind.signed]
theorem wu32 (n : Int) : IntKind.u32.wrap n = n % 4294967296 := by simp [IntKind.wrap, IntKind.bits, IntKind.signed]
theorem wi64 (n : Int) : IntKind.i64.wrap n = wrap64 n := by
  simp [IntKind.wrap, IntKind.bits, IntKind.signed, wrap64]; split <;> omega
def badE (x : S44) : Prop := x.f0 < 0 ∨ 16 ≤ x.f0 ∨ x.f2 < 0 ∨ 16 ≤ x.f2 ∨ (x.f1 = false ∧ x.f2 ≠ 0)
instance (x : S44) : Decidable (badE x) := by unfold badE; infer_instance
theorem drop_cons44 (L : List S44) (i : Nat) (h : i < L.length) : L.drop i = rd_T44 L i :: L.drop (i + 1) := by
  rw [List.drop_eq_getElem_cons h]; congr 1; simp [rd_T44, List.getElem?_eq_getElem h]
theorem rdOf_set (xs : List Bool) (a c : Int) (b : Bool) (ha : 0 ≤ a) (hc : 0 ≤ c) (h : a.toNat < xs.length) : rdOf false (xs.set a.toNat b) c = if a = c then b else rdOf false xs c := by
  obtain ⟨n, rfl⟩ := Int.eq_ofNat_of_zero_le ha
  obtain ⟨m, rfl⟩ := Int.eq_ofNat_of_zero_le hc
  simp only [rdOf, Int.toNat_natCast, List.getD_eq_getElem?_getD] at h ⊢
  by_cases e : n = m
  · subst e; rw [if_pos rfl, List.getElem?_set_self h]; rfl
  · rw [if_neg (by omega), List.getElem?_set_ne e]
theorem z_bad (x : S44) (l : List S44) (i : Nat) (c : Int) (xs : List Bool) (h : badE x) : hist_Check.z (x :: l) i c xs = ((i : Int), 2) := by rw [hist_Check.z]; exact if_pos h
theorem z_ok (x : S44) (l : List S44) (i : Nat) (c : Int) (xs : List Bool) (h : ¬ badE x) : hist_Check.z (x :: l) i c xs = if x.f1 = true ∧ c = 64 then ((i : Int), 5) else if x.f1 = rdOf false xs x.f0 then ((i : Int), 20) else hist_Check.z l (i + 1) (if x.f1 = true then c + 1 else c) (xs.set x.f0.toNat x.f1) := by rw [hist_Check.z]; exact if_neg h
def chkZ (L : List S44) : Int × Int := hist_Check.z L 0 0 (List.replicate 16 false)
theorem few14 (l : List S44) (n : Nat) (hn : n ≤ 1000) (h : l.length ≤ maxLen) : inquestref14_Few.f l n = some (l.take n) := by
  unfold inquestref14_Few.f
  have e : ([] : List S44).length = 0 := rfl
  by_cases c : l.length ≤ n
  · rw [if_neg (by omega), if_pos (by rw [e]; omega), List.take_of_length_le c]; rfl
  · rw [if_pos (by omega), if_pos (by omega), if_pos (by omega)]
    simp only [Option.bind_some, Int.toNat_natCast]
    rw [if_pos (by rw [e, List.length_take]; omega)]; rfl
theorem lives14 : inquestlaw14_lives.f = some true := by decide +kernel
def clo1 (x : S44) (n : Nat) (o : S40) : S40 := if o.f3 = false ∧ x.f0 = o.f0 then ⟨o.f0, o.f1, o.f2, true, x.f3, o.f5, n⟩ else o
/-- An operation, and the events behind it. -/
def clo : List S44 → Nat → S40 → S40
  | [], _, o => o
  | x :: l, n, o => clo l (n + 1) (clo1 x n o)
def newO (x : S44) (n : Nat) : S40 := ⟨x.f0, x.f2, x.f3, false, 0, n, -1⟩
def opsZ : List S44 → Nat → List S40
  | [], _ => []
  | x :: l, n => if x.f1 = true then clo l (n + 1) (newO x n) :: opsZ l (n + 1) else opsZ l (n + 1)
theorem clo_done : ∀ (l : List S44) (n : Nat) (o : S40), o.f3 = true → clo l n o = o
  | [], _, _, _ => rfl
  | x :: l, n, o, h => by
    have e : clo1 x n o = o := by unfold clo1; rw [if_neg (by rw [h]; simp)]
    rw [clo, e]; exact clo_done l (n + 1) o h
theorem opsZ_len : ∀ (l : List S44) (n : Nat), (opsZ l n).length ≤ l.length
  | [], _ => by simp [opsZ]
  | x :: l, n => by rw [opsZ]; have := opsZ_len l (n + 1); split <;> simp <;> omega
structure Lasts (out : List S40) (la : List Int) (xs : List Bool) : Prop where
  hl : la.length = 16
  hx : xs.length = 16
  on : ∀ cl : Int, 0 ≤ cl → cl < 16 → rdOf false xs cl = true → 0 ≤ rd la cl ∧ rd la cl < out.length ∧ (rd_T40 out (rd la cl)).f0 = cl ∧ (rd_T40 out (rd la cl)).f3 = false
  off : ∀ (cl : Int) (j : Nat), 0 ≤ cl → cl < 16 → j < out.length → (rd_T40 out j).f0 = cl → (rd_T40 out j).f3 = false → rdOf false xs cl = true ∧ (j : Int) = rd la cl
theorem rd_seti (xs : List Int) (a c v : Int) (ha : 0 ≤ a) (hc : 0 ≤ c) (h : a.toNat < xs.length) : rd (xs.set a.toNat v) c = if a = c then v else rd xs c := by
  obtain ⟨n, rfl⟩ := Int.eq_ofNat_of_zero_le ha
  obtain ⟨m, rfl⟩ := Int.eq_ofNat_of_zero_le hc
  simp only [rd, Int.toNat_natCast, List.getD_eq_getElem?_getD] at h ⊢
  by_cases e : n = m
  · subst e; rw [if_pos rfl, List.getElem?_set_self h]; rfl
  · rw [if_neg (by omega), List.getElem?_set_ne e]
theorem rdo_app (out : List S40) (o : S40) (j : Nat) (h : j < out.length) : rd_T40 (out ++ [o]) j = rd_T40 out j := by
  simp only [rd_T40, Int.toNat_natCast, List.getD_eq_getElem?_getD]; rw [List.getElem?_append_left h]
theorem rdo_last (out : List S40) (o : S40) : rd_T40 (out ++ [o]) (out.length : Int) = o := by
  simp [rd_T40]
theorem rdo_set (out : List S40) (o : S40) (i j : Nat) (h : i < out.length) : rd_T40 (out.set i o) j = if i = j then o else rd_T40 out j := by
  simp only [rd_T40, Int.toNat_natCast, List.getD_eq_getElem?_getD]
  by_cases e : i = j
  · subst e; rw [if_pos rfl, List.getElem?_set_self h]; rfl
  · rw [if_neg e, List.getElem?_set_ne e]
theorem Lasts.call {out : List S40} {la : List Int} {xs : List Bool} (h : Lasts out la xs) (x : S44) (n : Nat) (hb : ¬ badE x) (hx : rdOf false xs x.f0 = false) :
    Lasts (out ++ [newO x n]) (la.set x.f0.toNat (out.length : Int)) (xs.set x.f0.toNat true) := by
  unfold badE at hb
  refine ⟨by simpa using h.hl, by simpa using h.hx, fun cl h0 h1 hc => ?_, fun cl j h0 h1 hj hf h3 => ?_⟩
  · rw [rd_seti _ _ _ _ (by omega) h0 (by rw [h.hl]; omega)]
    rw [rdOf_set _ _ _ _ (by omega) h0 (by rw [h.hx]; omega)] at hc
    by_cases e : x.f0 = cl
    · rw [if_pos e]
      rw [rdo_last]
      exact ⟨by omega, by simp; omega, e, rfl⟩
    · rw [if_neg e] at hc ⊢
      obtain ⟨a, b, c, d⟩ := h.on cl h0 h1 hc
      obtain ⟨m, hm⟩ := Int.eq_ofNat_of_zero_le a
      rw [hm] at a b c d ⊢
      rw [rdo_app _ _ _ (by omega)]
      exact ⟨a, by simp; omega, c, d⟩
  · rw [rd_seti _ _ _ _ (by omega) h0 (by rw [h.hl]; omega), rdOf_set _ _ _ _ (by omega) h0 (by rw [h.hx]; omega)]
    rw [List.length_append, List.length_singleton] at hj
    by_cases ej : j = out.length
    · subst ej
      rw [rdo_last] at hf
      have e : x.f0 = cl := hf
      rw [if_pos e, if_pos e]; exact ⟨rfl, rfl⟩
    · rw [rdo_app _ _ _ (by omega)] at hf h3
      obtain ⟨a, b⟩ := h.off cl j h0 h1 (by omega) hf h3
      have e : ¬ x.f0 = cl := by intro e; rw [e, a] at hx; exact absurd hx (by simp)
      rw [if_neg e, if_neg e]; exact ⟨a, b⟩
theorem Lasts.answer {out : List S40} {la : List Int} {xs : List Bool} (h : Lasts out la xs) (x : S44) (n t : Nat) (hb : ¬ badE x) (hx : rdOf false xs x.f0 = true) (ht : rd la x.f0 = t) (o : S40) (h0 : o.f0 = x.f0) (h3 : o.f3 = true) :
    Lasts (out.set t o) la (xs.set x.f0.toNat false) := by
  unfold badE at hb
  obtain ⟨a, b, c, d⟩ := h.on x.f0 (by omega) (by omega) hx
  rw [ht] at a b c d
  refine ⟨h.hl, by simpa using h.hx, fun cl g0 g1 hc => ?_, fun cl j g0 g1 hj hf hf3 => ?_⟩
  · rw [rdOf_set _ _ _ _ (by omega) g0 (by rw [h.hx]; omega)] at hc
    by_cases e : x.f0 = cl
    · rw [if_pos e] at hc; exact absurd hc (by simp)
    · rw [if_neg e] at hc
      obtain ⟨a2, b2, c2, d2⟩ := h.on cl g0 g1 hc
      obtain ⟨m, hm⟩ := Int.eq_ofNat_of_zero_le a2
      rw [hm] at a2 b2 c2 d2 ⊢
      have : ¬ t = m := by intro e2; subst e2; exact e (c.symm.trans c2)
      rw [rdo_set _ _ _ _ (by omega), if_neg this]
      exact ⟨a2, by simp; omega, c2, d2⟩
  · rw [List.length_set] at hj
    rw [rdo_set _ _ _ _ (by omega)] at hf hf3
    by_cases e : t = j
    · rw [if_pos e, h3] at hf3; exact absurd hf3 (by simp)
    · rw [if_neg e] at hf hf3
      obtain ⟨a2, b2⟩ := h.off cl j g0 g1 hj hf hf3
      have e2 : ¬ x.f0 = cl := by intro e2; rw [← e2, ht] at b2; omega
      rw [rdOf_set _ _ _ _ (by omega) g0 (by rw [h.hx]; omega), if_neg e2]; exact ⟨a2, b2⟩
theorem hist_Ops_z : ∀ (l : List S44) (n : Nat) (c : Int) (out : List S40) (la : List Int) (xs : List Bool), Lasts out la xs → (hist_Check.z l n c xs).2 = 0 → out.length + l.length ≤ 1000 →
    hist_Ops.l0 l n out la = some (out.map (clo l n) ++ opsZ l n)
  | [], n, c, out, la, xs, _, _, _ => by
    unfold hist_Ops.l0 opsZ
    have : (fun o => clo [] n o) = id := rfl
    rw [show out.map (clo [] n) = out from by rw [show clo [] n = id from rfl, List.map_id], List.append_nil]
  | x :: l, n, c, out, la, xs, h, hz, hn => by
    by_cases hb : badE x
    · rw [z_bad _ _ _ _ _ hb] at hz; exact absurd hz (by simp)
    · rw [z_ok _ _ _ _ _ hb] at hz
      rw [List.length_cons] at hn
      have hbb := hb
      unfold badE at hbb
      by_cases c1 : x.f1 = true ∧ c = 64
      · rw [if_pos c1] at hz; exact absurd hz (by simp)
      · rw [if_neg c1] at hz
        by_cases c2 : x.f1 = rdOf false xs x.f0
        · rw [if_pos c2] at hz; exact absurd hz (by simp)
        · rw [if_neg c2] at hz
          unfold hist_Ops.l0
          rw [if_pos ⟨by omega, by omega, by omega⟩]
          cases hf : x.f1 with
          | true =>
            rw [hf] at hz c2
            have hx : rdOf false xs x.f0 = false := by cases e : rdOf false xs x.f0 <;> simp_all
            rw [if_pos rfl]
            show hist_Ops.l0 l (n + 1) (out ++ [newO x n]) _ = _
            rw [hist_Ops_z l (n + 1) _ _ _ _ (h.call x n hb hx) hz (by rw [List.length_append, List.length_singleton]; omega)]
            rw [opsZ, if_pos hf, List.map_append, List.append_assoc]
            congr 2
            apply List.map_congr_left
            intro o ho
            rw [clo]
            congr 1
            unfold clo1
            obtain ⟨j, hj, rfl⟩ := List.getElem_of_mem ho
            rw [if_neg]
            rintro ⟨h3, h0⟩
            have e : rd_T40 out j = out[j] := by simp [rd_T40, List.getElem?_eq_getElem hj]
            have := (h.off x.f0 j (by omega) (by omega) hj (by rw [e, ← h0]) (by rw [e]; exact h3)).1
            rw [hx] at this; exact absurd this (by simp)
          | false =>
            rw [hf] at hz c2
            have hx : rdOf false xs x.f0 = true := by cases e : rdOf false xs x.f0 <;> simp_all
            obtain ⟨a, b, c3, d⟩ := h.on x.f0 (by omega) (by omega) hx
            obtain ⟨t, ht⟩ := Int.eq_ofNat_of_zero_le a
            rw [ht] at a b c3 d
            rw [if_neg (by simp), ht, if_pos ⟨a, b⟩, Int.toNat_natCast]
            rw [hist_Ops_z l (n + 1) _ _ _ _ (h.answer x n t hb hx ht ⟨(rd_T40 out t).f0, (rd_T40 out t).f1, (rd_T40 out t).f2, true, x.f3, (rd_T40 out t).f5, n⟩ c3 rfl) hz (by rw [List.length_set]; omega)]
            rw [opsZ, if_neg (by rw [hf]; simp)]
            congr 2
            have e : out.set t ⟨(rd_T40 out t).f0, (rd_T40 out t).f1, (rd_T40 out t).f2, true, x.f3, (rd_T40 out t).f5, n⟩ = out.map (clo1 x n) := by
              apply List.ext_getElem (by simp)
              intro j h1 h2
              rw [List.length_set] at h1
              have ej : rd_T40 out j = out[j] := by simp [rd_T40, List.getElem?_eq_getElem h1]
              rw [List.getElem_set, List.getElem_map]
              unfold clo1
              by_cases e : t = j
              · subst e
                rw [if_pos rfl, ← ej, if_pos ⟨d, c3.symm⟩]
              · rw [if_neg e, if_neg]
                rintro ⟨h3, h0⟩
                have := (h.off x.f0 j (by omega) (by omega) h1 (by rw [ej, ← h0]) (by rw [ej]; exact h3)).2
                omega
            rw [e, List.map_map]; rfl
def opsA (L : List S44) : List S40 × Int := if (chkZ L).2 = 0 then (opsZ L 0, 0) else ([], (chkZ L).2)
theorem Lasts.start : Lasts [] (List.replicate 16 0) (List.replicate 16 false) := by
  refine ⟨rfl, rfl, fun cl h0 h1 hc => ?_, fun cl j _ _ hj => absurd hj (by simp)⟩
  obtain ⟨n, rfl⟩ := Int.eq_ofNat_of_zero_le h0
  have key : ∀ n : Nat, n < 16 → rdOf false (List.replicate 16 false) (n : Int) = false := by decide +kernel
  rw [key n (by omega)] at hc; exact absurd hc (by simp)
theorem hist_Ops_is (L : List S44) (hl : L.length ≤ 1000) : hist_Ops.f L = some (opsA L) := by
  unfold hist_Ops.f opsA
  rw [show hist_Check.f L = some (chkZ L) from rfl]
  simp only [Option.bind_some]
  by_cases c : (chkZ L).2 = 0
  · rw [if_pos c, if_pos c, hist_Ops_z L 0 0 [] _ _ Lasts.start c (by simpa using hl)]; rfl
  · rw [if_neg c, if_neg c]
def hHit (o : S40) (k : Nat) : Nat := (if o.f5 = (k : Int) then 1 else 0) + (if o.f3 = true ∧ o.f6 = (k : Int) then 1 else 0)
def hHits : List S40 → Nat → Nat
  | [], _ => 0
  | o :: r, k => hHit o k + hHits r k
theorem hHits_app : ∀ (p q : List S40) (k : Nat), hHits (p ++ q) k = hHits p k + hHits q k
  | [], q, k => by simp [hHits]
  | o :: r, q, k => by rw [List.cons_append, hHits, hHits, hHits_app r q k]; omega
theorem rdo_succ (a : S40) (r : List S40) (t : Nat) : rd_T40 (a :: r) ((t + 1 : Nat) : Int) = rd_T40 r (t : Int) := by
  simp only [rd_T40, Int.toNat_natCast, List.getD_eq_getElem?_getD, List.getElem?_cons_succ]
theorem hHits_set : ∀ (out : List S40) (t : Nat) (o : S40) (k : Nat), t < out.length → hHits (out.set t o) k + hHit (rd_T40 out (t : Int)) k = hHits out k + hHit o k
  | [], t, o, k, h => by simp at h
  | a :: r, 0, o, k, h => by
    rw [List.set_cons_zero, hHits, hHits, show rd_T40 (a :: r) ((0 : Nat) : Int) = a from rfl]; omega
  | a :: r, t + 1, o, k, h => by
    rw [List.set_cons_succ, hHits, hHits, rdo_succ]
    have := hHits_set r t o k (by simpa using h)
    omega
structure HOne (L : List S44) (n : Nat) (o : S40) : Prop where
  a0 : 0 ≤ o.f5
  a1 : o.f5 < (n : Int)
  a2 : rd_T44 L o.f5 = ⟨o.f0, true, o.f1, o.f2⟩
  b : o.f3 = false → o.f6 = -1 ∧ o.f4 = 0
  c : o.f3 = true → o.f5 < o.f6 ∧ o.f6 < (n : Int) ∧ rd_T44 L o.f6 = ⟨o.f0, false, 0, o.f4⟩
theorem HOne.mono {L : List S44} {n m : Nat} {o : S40} (h : HOne L n o) (hm : n ≤ m) : HOne L m o :=
  ⟨h.a0, by have := h.a1; omega, h.a2, h.b, fun e => ⟨(h.c e).1, by have := (h.c e).2.1; omega, (h.c e).2.2⟩⟩
structure HInv (L : List S44) (out : List S40) (n : Nat) : Prop where
  one : ∀ j : Nat, j < out.length → HOne L n (rd_T40 out (j : Int))
  inc : ∀ j k : Nat, j < k → k < out.length → (rd_T40 out (j : Int)).f5 < (rd_T40 out (k : Int)).f5
  pr : ∀ k i : Nat, k < i → i < out.length → (rd_T40 out (k : Int)).f0 = (rd_T40 out (i : Int)).f0 → (rd_T40 out (k : Int)).f3 = true ∧ (rd_T40 out (k : Int)).f6 < (rd_T40 out (i : Int)).f5
  h1 : ∀ k : Nat, k < n → hHits out k = 1
  h0 : ∀ k : Nat, n ≤ k → hHits out k = 0
theorem HInv.call {L : List S44} {out : List S40} {la : List Int} {xs : List Bool} {n : Nat} {x : S44} (h : HInv L out n) (hl : Lasts out la xs) (hb : ¬ badE x) (hx : rdOf false xs x.f0 = false) (hr : rd_T44 L (n : Int) = x) (hf : x.f1 = true) :
    HInv L (out ++ [newO x n]) (n + 1) := by
  have e5 : (newO x n).f5 = (n : Int) := rfl
  have e3 : (newO x n).f3 = false := rfl
  have hh : ∀ k : Nat, hHits (out ++ [newO x n]) k = hHits out k + (if (n : Int) = (k : Int) then 1 else 0) := by
    intro k; rw [hHits_app]; simp only [hHits, hHit, e5, e3]; simp
  refine ⟨fun j hj => ?_, fun j k hjk hk => ?_, fun k i hki hi he => ?_, fun k hk => ?_, fun k hk => ?_⟩
  · rw [List.length_append, List.length_singleton] at hj
    by_cases e : j = out.length
    · subst e; rw [rdo_last]
      refine ⟨by rw [e5]; omega, by rw [e5]; omega, by rw [e5, hr]; cases x; simp only at hf; subst hf; rfl, fun _ => ⟨rfl, rfl⟩, fun h => by rw [e3] at h; cases h⟩
    · rw [rdo_app _ _ _ (by omega)]; exact (h.one j (by omega)).mono (by omega)
  · rw [List.length_append, List.length_singleton] at hk
    rw [rdo_app out _ j (by omega)]
    by_cases e : k = out.length
    · subst e; rw [rdo_last, e5]; exact (h.one j (by omega)).a1
    · rw [rdo_app _ _ _ (by omega)]; exact h.inc j k hjk (by omega)
  · rw [List.length_append, List.length_singleton] at hi
    rw [rdo_app out _ k (by omega)] at he ⊢
    by_cases e : i = out.length
    · subst e; rw [rdo_last] at he ⊢
      have he2 : (rd_T40 out (k : Int)).f0 = x.f0 := he
      have h3 : (rd_T40 out (k : Int)).f3 = true := by
        cases c : (rd_T40 out (k : Int)).f3 with
        | true => rfl
        | false =>
          unfold badE at hb
          have := (hl.off x.f0 k (by omega) (by omega) (by omega) he2 c).1
          rw [hx] at this; cases this
      exact ⟨h3, by rw [e5]; exact ((h.one k (by omega)).c h3).2.1⟩
    · rw [rdo_app _ _ _ (by omega)] at he ⊢; exact h.pr k i hki (by omega) he
  · rw [hh]
    by_cases e : k = n
    · subst e; rw [if_pos rfl, h.h0 k (Nat.le_refl _)]
    · rw [if_neg (by omega), h.h1 k (by omega)]
  · rw [hh, if_neg (by omega), h.h0 k (by omega)]
theorem HInv.answer {L : List S44} {out : List S40} {n t : Nat} {x : S44} (h : HInv L out n) (hb : ¬ badE x) (ht : t < out.length) (h0 : (rd_T40 out (t : Int)).f0 = x.f0) (h3 : (rd_T40 out (t : Int)).f3 = false) (hr : rd_T44 L (n : Int) = x) (hf : x.f1 = false) :
    HInv L (out.set t ⟨(rd_T40 out (t : Int)).f0, (rd_T40 out (t : Int)).f1, (rd_T40 out (t : Int)).f2, true, x.f3, (rd_T40 out (t : Int)).f5, n⟩) (n + 1) := by
  have hp := h.pr
  have ho := h.one t ht
  generalize hu : rd_T40 out (t : Int) = u at *
  have ro : ∀ j : Nat, rd_T40 (out.set t ⟨u.f0, u.f1, u.f2, true, x.f3, u.f5, n⟩) (j : Int) = if t = j then ⟨u.f0, u.f1, u.f2, true, x.f3, u.f5, n⟩ else rd_T40 out (j : Int) := fun j => rdo_set _ _ _ _ ht
  have r5 : ∀ j : Nat, (rd_T40 (out.set t ⟨u.f0, u.f1, u.f2, true, x.f3, u.f5, n⟩) (j : Int)).f5 = (rd_T40 out (j : Int)).f5 := fun j => by
    rw [ro]; split
    · next e => subst e; rw [hu]
    · rfl
  have r0 : ∀ j : Nat, (rd_T40 (out.set t ⟨u.f0, u.f1, u.f2, true, x.f3, u.f5, n⟩) (j : Int)).f0 = (rd_T40 out (j : Int)).f0 := fun j => by
    rw [ro]; split
    · next e => subst e; rw [hu]
    · rfl
  have hh : ∀ k : Nat, hHits (out.set t ⟨u.f0, u.f1, u.f2, true, x.f3, u.f5, n⟩) k = hHits out k + (if (n : Int) = (k : Int) then 1 else 0) := by
    intro k
    have e := hHits_set out t ⟨u.f0, u.f1, u.f2, true, x.f3, u.f5, n⟩ k ht
    rw [hu] at e
    simp only [hHit, h3, true_and, Bool.false_eq_true, false_and, if_false] at e
    omega
  refine ⟨fun j hj => ?_, fun j k hjk hk => ?_, fun k i hki hi he => ?_, fun k hk => ?_, fun k hk => ?_⟩
  · rw [List.length_set] at hj
    rw [ro]; split
    · refine ⟨ho.a0, (by have := ho.a1; show u.f5 < _; omega), ho.a2, (fun h => nomatch (h : true = false)), fun _ => ⟨ho.a1, (by show (n : Int) < _; omega), ?_⟩⟩
      show rd_T44 L (n : Int) = ⟨u.f0, false, 0, x.f3⟩
      rw [hr, h0]
      unfold badE at hb
      have : x.f2 = 0 := by
        by_cases c : x.f2 = 0
        · exact c
        · exact absurd (.inr (.inr (.inr (.inr ⟨hf, c⟩)))) hb
      cases x; simp only at hf this; subst hf this; rfl
    · exact (h.one j hj).mono (by omega)
  · rw [List.length_set] at hk
    rw [r5, r5]; exact h.inc j k hjk hk
  · rw [List.length_set] at hi
    rw [r0, r0] at he
    have := hp k i hki hi he
    rw [r5, ro]; split
    · next e => subst e; rw [hu, h3] at this; exact absurd this.1 (by simp)
    · exact this
  · rw [hh]
    by_cases e : k = n
    · subst e; rw [if_pos rfl, h.h0 k (Nat.le_refl _)]
    · rw [if_neg (by omega), h.h1 k (by omega)]
  · rw [hh, if_neg (by omega), h.h0 k (by omega)]
theorem hw_inv (L : List S44) : ∀ (l : List S44) (n : Nat) (c : Int) (out : List S40) (la : List Int) (xs : List Bool), Lasts out la xs → (hist_Check.z l n c xs).2 = 0 → out.length + l.length ≤ 1000 → L.drop n = l → n + l.length = L.length → HInv L out n →
    ∀ r, hist_Ops.l0 l n out la = some r → HInv L r L.length
  | [], n, c, out, la, xs, _, _, _, _, hn, hI, r, hr => by
    unfold hist_Ops.l0 at hr
    cases hr
    have : n = L.length := by simpa using hn
    rw [← this]; exact hI
  | x :: l, n, c, out, la, xs, h, hz, hn, hd, hnl, hI, r, hr => by
    rw [List.length_cons] at hnl
    have hxn : rd_T44 L (n : Int) = x := by
      have e : L.drop n = L[n]'(by omega) :: L.drop (n + 1) := List.drop_eq_getElem_cons (by omega)
      rw [hd] at e; injection e with e1 e2
      rw [e1]; simp [rd_T44, List.getElem?_eq_getElem (show n < L.length by omega)]
    have hd2 : L.drop (n + 1) = l := by
      have e : L.drop n = L[n]'(by omega) :: L.drop (n + 1) := List.drop_eq_getElem_cons (by omega)
      rw [hd] at e; injection e with e1 e2; exact e2.symm
    by_cases hb : badE x
    · rw [z_bad _ _ _ _ _ hb] at hz; exact absurd hz (by simp)
    · rw [z_ok _ _ _ _ _ hb] at hz
      rw [List.length_cons] at hn
      have hbb := hb
      unfold badE at hbb
      by_cases c1 : x.f1 = true ∧ c = 64
      · rw [if_pos c1] at hz; exact absurd hz (by simp)
      · rw [if_neg c1] at hz
        by_cases c2 : x.f1 = rdOf false xs x.f0
        · rw [if_pos c2] at hz; exact absurd hz (by simp)
        · rw [if_neg c2] at hz
          unfold hist_Ops.l0 at hr
          rw [if_pos ⟨by omega, by omega, by omega⟩] at hr
          cases hf : x.f1 with
          | true =>
            rw [hf] at hz c2 hr
            have hx : rdOf false xs x.f0 = false := by cases e : rdOf false xs x.f0 <;> simp_all
            rw [if_pos rfl] at hr
            exact hw_inv L l (n + 1) _ (out ++ [newO x n]) _ _ (h.call x n hb hx) hz (by rw [List.length_append, List.length_singleton]; omega) hd2 (by omega) (hI.call h hb hx hxn hf) r hr
          | false =>
            rw [hf] at hz c2 hr
            have hx : rdOf false xs x.f0 = true := by cases e : rdOf false xs x.f0 <;> simp_all
            obtain ⟨a, b, c3, d⟩ := h.on x.f0 (by omega) (by omega) hx
            obtain ⟨t, ht⟩ := Int.eq_ofNat_of_zero_le a
            rw [ht] at a b c3 d
            rw [if_neg (by simp), ht, if_pos ⟨a, b⟩, Int.toNat_natCast] at hr
            exact hw_inv L l (n + 1) _ _ _ _ (h.answer x n t hb hx ht ⟨(rd_T40 out t).f0, (rd_T40 out t).f1, (rd_T40 out t).f2, true, x.f3, (rd_T40 out t).f5, n⟩ c3 rfl) hz (by rw [List.length_set]; omega) hd2 (by omega) (hI.answer hb (by omega) c3 d hxn hf) r hr
theorem rd0_b1 (s : List Int) (a c : Int) (ha : 0 ≤ a) (hc : 0 ≤ c) (h : a.toNat < s.length) : rdOf 0 (hw_b1 a s) c = if a = c then wrap64 (rdOf 0 s a + 1) else rdOf 0 s c := by
  obtain ⟨n, rfl⟩ := Int.eq_ofNat_of_zero_le ha
  obtain ⟨m, rfl⟩ := Int.eq_ofNat_of_zero_le hc
  simp only [hw_b1, rdOf, Int.toNat_natCast, List.getD_eq_getElem?_getD] at h ⊢
  by_cases e : n = m
  · subst e; rw [if_pos rfl, List.getElem?_set_self h]; rfl
  · rw [if_neg (by omega), List.getElem?_set_ne e]
theorem b1_plain (s : List Int) (a c : Int) (ha : 0 ≤ a) (hc : 0 ≤ c) (h : a.toNat < s.length) (x0 : 0 ≤ rdOf 0 s a) (x1 : rdOf 0 s a ≤ 1) : rdOf 0 (hw_b1 a s) c = rdOf 0 s c + (if a = c then 1 else 0) := by
  rw [rd0_b1 s a c ha hc h]
  by_cases e : a = c
  · subst e; rw [if_pos rfl, if_pos rfl, w64 (by omega) (by omega)]
  · rw [if_neg e, if_neg e, Int.add_zero]
theorem sn_hits : ∀ (p : List S40) (s : List Int), (∀ o ∈ p, 0 ≤ o.f5 ∧ o.f5 < (s.length : Int) ∧ (o.f3 = true → 0 ≤ o.f6 ∧ o.f6 < (s.length : Int))) → (∀ k : Nat, k < s.length → 0 ≤ rdOf 0 s (k : Int) ∧ rdOf 0 s (k : Int) + (hHits p k : Int) ≤ 1) →
    ∀ k : Nat, k < s.length → rdOf 0 (hw_sn p s) (k : Int) = rdOf 0 s (k : Int) + (hHits p k : Int)
  | [], s, _, _, k, hk => by simp [hw_sn, hHits]
  | o :: r, s, hb, hh, k, hk => by
    obtain ⟨b0, b1, b2⟩ := hb o List.mem_cons_self
    obtain ⟨n, hn⟩ := Int.eq_ofNat_of_zero_le b0
    have hb' : ∀ k : Nat, k < s.length → rdOf 0 (hw_bump o s) (k : Int) = rdOf 0 s (k : Int) + (hHit o k : Int) := by
      intro k hk
      have f5 := hh n (by omega)
      rw [hHits] at f5
      have q5 : hHit o n ≥ 1 := by unfold hHit; rw [hn]; simp
      have p5 : rdOf 0 (hw_b1 o.f5 s) (k : Int) = rdOf 0 s (k : Int) + (if o.f5 = (k : Int) then 1 else 0) := b1_plain s o.f5 k b0 (by omega) (by omega) (by rw [hn]; exact f5.1) (by rw [hn]; omega)
      unfold hw_bump hHit
      by_cases c : o.f3 = true
      · rw [if_pos c]
        obtain ⟨d0, d1⟩ := b2 c
        obtain ⟨m, hm⟩ := Int.eq_ofNat_of_zero_le d0
        have f6 := hh m (by omega)
        rw [hHits] at f6
        have q6 : hHit o m = (if o.f5 = (m : Int) then 1 else 0) + 1 := by unfold hHit; rw [hm]; simp [c]
        have p6 : rdOf 0 (hw_b1 o.f5 s) (m : Int) = rdOf 0 s (m : Int) + (if o.f5 = (m : Int) then 1 else 0) := b1_plain s o.f5 m b0 (by omega) (by omega) (by rw [hn]; exact f5.1) (by rw [hn]; omega)
        rw [b1_plain (hw_b1 o.f5 s) o.f6 k d0 (by omega) (by rw [hw_b1_len]; omega) (by rw [hm, p6]; split <;> omega) (by rw [hm, p6]; split at q6 <;> split <;> omega), p5]
        by_cases e1 : o.f5 = (k : Int) <;> by_cases e2 : o.f6 = (k : Int) <;> simp [e1, e2, c] <;> omega
      · rw [if_neg c, p5]
        by_cases e1 : o.f5 = (k : Int) <;> simp [e1, c]
    have hl : (hw_bump o s).length = s.length := by unfold hw_bump; split <;> simp [hw_b1_len]
    rw [hw_sn, sn_hits r (hw_bump o s) (fun o2 h2 => by rw [hl]; exact hb o2 (List.mem_cons_of_mem _ h2)) (fun j hj => by
      rw [hl] at hj
      have := hh j hj
      rw [hHits] at this
      rw [hb' j hj]; omega) k (by rw [hl]; exact hk), hb' k hk, hHits]
    omega
theorem HistWhole : inquestlaw14_HistWhole.Pure := by
  intro l0 hl _
  have hLl : (l0.take 128).length ≤ 128 := by rw [List.length_take]; omega
  unfold inquestlaw14_HistWhole.f
  rw [show (128 : Int) = ((128 : Nat) : Int) from rfl, few14 l0 128 (by omega) hl]
  simp only [Option.bind_some]
  generalize l0.take 128 = L at *
  rw [hist_Ops_is L (by omega)]
  simp only [Option.bind_some]
  rw [if_neg (by omega)]
  unfold opsA
  by_cases c : (chkZ L).2 = 0
  · rw [if_pos c, if_pos rfl]
    have hr := hist_Ops_z L 0 0 [] _ _ Lasts.start c (by simpa using (show L.length ≤ 1000 by omega))
    have hI := hw_inv L L 0 0 [] _ _ Lasts.start c (by simpa using (show L.length ≤ 1000 by omega)) rfl (by omega) ⟨fun j hj => absurd hj (by simp), fun j k _ hk => absurd hk (by simp), fun k i _ hi => absurd hi (by simp), fun k hk => absurd hk (by omega), fun k _ => rfl⟩ _ hr
    rw [List.map_nil, List.nil_append] at hI
    generalize opsZ L 0 = p at *
    rw [if_pos]
    have hin : ∀ o ∈ p, ∃ j : Nat, j < p.length ∧ rd_T40 p (j : Int) = o := by
      intro o ho
      obtain ⟨j, hj, rfl⟩ := List.getElem_of_mem ho
      exact ⟨j, hj, by simp [rd_T40, List.getElem?_eq_getElem hj]⟩
    refine ⟨fun i hi => ?_, fun k hk => ?_, fun k i hki hi he => ?_⟩
    · have h := hI.one i hi
      refine ⟨h.a0, h.a1, h.a2, fun h0 => ?_, h.b, h.c⟩
      rw [show (i : Int) - 1 = ((i - 1 : Nat) : Int) by omega]
      exact hI.inc (i - 1) i (by omega) hi
    · have hz : ∀ k : Nat, k < L.length → rdOf (0 : Int) (List.replicate L.length (0 : Int)) (k : Int) = 0 := by
        intro k hk
        simp [rdOf, hk]
      rw [sn_hits p (List.replicate L.length 0) (fun o ho => by
        obtain ⟨j, hj, rfl⟩ := hin o ho
        have h := hI.one j hj
        rw [List.length_replicate]
        exact ⟨h.a0, h.a1, fun h3 => ⟨by have := (h.c h3).1; have := h.a0; omega, (h.c h3).2.1⟩⟩) (fun k hk => by
        rw [List.length_replicate] at hk
        rw [hz k hk, hI.h1 k hk]; omega) k (by rw [List.length_replicate]; exact hk), hz k hk, hI.h1 k hk]
      rfl
    · obtain ⟨a, b⟩ := hI.pr k i hki hi he
      unfold hw_bef
      rw [a, decide_eq_true b]; rfl
  · rw [if_neg c, if_neg c]
    rfl

end Go.Proofs.Ytofhghpahmeolaa.Pure
