/- The law HistLonger answers true at every input: a beginning of a history is one, with the same operations, but for answers that come behind it. No condition. The printed texts and the row beside it were written by wip/bin/pp.sh of this session. -/
import Derived.Test.YtofhghpahmeolaaPHistLongerx1
namespace Go.Proofs.Ytofhghpahmeolaa.Pure
open Go.RowKit Go.Proofs.Ytofhghpahmeolaa.PHistLonger Go.Proofs.YtofhghpahmeolaaW.PrintWords Go.Proofs.YtofhghpahmeolaaW.PrintLast Go.Proofs.YtofhghpahmeolaaW.PrintMore
set_option linter.unusedVariables false
set_option linter.unusedSimpArgs false
theorem w64 {i : Int} (h : -9223372036854775808 ≤ i) (h' : i ≤ 9223372036854775807) : wrap64 i = i := by unfold wrap64; omega
theorem wf_u64 {a : Int} (h : (Lit.int .u64 a).wf = true) : 0 ≤ a ∧ a < 18446744073709551616 := by
  simp [Lit.wf, IntKind.min, IntKind.max, IntKind.signed, IntKind.bits] at h; omega
theorem wf_i64 {a : Int} (h : (Lit.int .i64 a).wf = true) : -9223372036854775808 ≤ a ∧ a ≤ 9223372036854775807 := by
  simp [Lit.wf, IntKind.min, IntKind.max, IntKind.signed, IntKind.bits] at h; omega
theorem wf_u32 {a : Int} (h : (Lit.int .u32 a).wf = true) : 0 ≤ a ∧ a < 4294967296 := by
  simp [Lit.wf, IntKind.min, IntKind.max, IntKind.signed, IntKind.bits] at h; omega
theorem wu64 (n : Int) : IntKind.u64.wrap n = n % 18446744073709551616 := by simp [IntKind.wrap, IntKind.bits, IntKind.signed]
theorem wu32 (n : Int) : IntKind.u32.wrap n = n % 4294967296 := by simp [IntKind.wrap, IntKind.bits, IntKind.signed]
theorem wi64 (n : Int) : IntKind.i64.wrap n = wrap64 n := by
  simp [IntKind.wrap, IntKind.bits, IntKind.signed, wrap64]; split <;> omega
theorem least01 (a lo hi : Int) (h : lo ≤ hi) : ∃ r, inquestref01_Least.f a lo hi = some r ∧ lo ≤ r ∧ r ≤ hi := by
  unfold inquestref01_Least.f
  by_cases c : a < lo
  · exact ⟨lo, by rw [if_pos c], by omega, by omega⟩
  · rw [if_neg c]
    by_cases d : a > hi
    · exact ⟨hi, by rw [if_pos d], by omega, by omega⟩
    · exact ⟨a, by rw [if_neg d], by omega, by omega⟩
def badE (x : S44) : Prop := x.f0 < 0 ∨ 16 ≤ x.f0 ∨ x.f2 < 0 ∨ 16 ≤ x.f2 ∨ (x.f1 = false ∧ x.f2 ≠ 0)
instance (x : S44) : Decidable (badE x) := by unfold badE; infer_instance
theorem drop_cons44 (L : List S44) (i : Nat) (h : i < L.length) : L.drop i = rd_T44 L i :: L.drop (i + 1) := by
  rw [List.drop_eq_getElem_cons h]; congr 1; simp [rd_T44, List.getElem?_eq_getElem h]
theorem rdOf_set (xs : List Bool) (a c : Int) (b : Bool) (ha : 0 ≤ a) (hc : 0 ≤ c) (h : a.toNat < xs.length) : rdOf false (xs.set a.toNat b) c = if a = c then b else rdOf false xs c := by
  obtain ⟨n, rfl⟩ := Int.eq_ofNat_of_zero_le ha
  obtain ⟨m, rfl⟩ := Int.eq_ofNat_of_zero_le hc
  simp only [rdOf, Int.toNat_natCast, List.getD_eq_getElem?_getD] at h ⊢
  by_cases e : n = m
  · subst e; rw [if_pos rfl, List.getElem?_set_self h]; rfl
  · rw [if_neg (by omega), List.getElem?_set_ne e]
theorem z_bad (x : S44) (l : List S44) (i : Nat) (c : Int) (xs : List Bool) (h : badE x) : hist_Check.z (x :: l) i c xs = ((i : Int), 2) := by rw [hist_Check.z]; exact if_pos h
theorem z_ok (x : S44) (l : List S44) (i : Nat) (c : Int) (xs : List Bool) (h : ¬ badE x) : hist_Check.z (x :: l) i c xs = if x.f1 = true ∧ c = 64 then ((i : Int), 5) else if x.f1 = rdOf false xs x.f0 then ((i : Int), 20) else hist_Check.z l (i + 1) (if x.f1 = true then c + 1 else c) (xs.set x.f0.toNat x.f1) := by rw [hist_Check.z]; exact if_neg h
def chkZ (L : List S44) : Int × Int := hist_Check.z L 0 0 (List.replicate 16 false)
theorem few14 (l : List S44) (n : Nat) (hn : n ≤ 1000) (h : l.length ≤ maxLen) : inquestref14_Few.f l n = some (l.take n) := by
  unfold inquestref14_Few.f
  have e : ([] : List S44).length = 0 := rfl
  by_cases c : l.length ≤ n
  · rw [if_neg (by omega), if_pos (by rw [e]; omega), List.take_of_length_le c]; rfl
  · rw [if_pos (by omega), if_pos (by omega), if_pos (by omega)]
    simp only [Option.bind_some, Int.toNat_natCast]
    rw [if_pos (by rw [e, List.length_take]; omega)]; rfl
theorem lives14 : inquestlaw14_lives.f = some true := by decide +kernel
def clo1 (x : S44) (n : Nat) (o : S40) : S40 := if o.f3 = false ∧ x.f0 = o.f0 then ⟨o.f0, o.f1, o.f2, true, x.f3, o.f5, n⟩ else o
/-- An operation, and the events behind it. -/
def clo : List S44 → Nat → S40 → S40
  | [], _, o => o
  | x :: l, n, o => clo l (n + 1) (clo1 x n o)
def newO (x : S44) (n : Nat) : S40 := ⟨x.f0, x.f2, x.f3, false, 0, n, -1⟩
def opsZ : List S44 → Nat → List S40
  | [], _ => []
  | x :: l, n => if x.f1 = true then clo l (n + 1) (newO x n) :: opsZ l (n + 1) else opsZ l (n + 1)
theorem clo_done : ∀ (l : List S44) (n : Nat) (o : S40), o.f3 = true → clo l n o = o
  | [], _, _, _ => rfl
  | x :: l, n, o, h => by
    have e : clo1 x n o = o := by unfold clo1; rw [if_neg (by rw [h]; simp)]
    rw [clo, e]; exact clo_done l (n + 1) o h
theorem opsZ_len : ∀ (l : List S44) (n : Nat), (opsZ l n).length ≤ l.length
  | [], _ => by simp [opsZ]
  | x :: l, n => by rw [opsZ]; have := opsZ_len l (n + 1); split <;> simp <;> omega
structure Lasts (out : List S40) (la : List Int) (xs : List Bool) : Prop where
  hl : la.length = 16
  hx : xs.length = 16
  on : ∀ cl : Int, 0 ≤ cl → cl < 16 → rdOf false xs cl = true → 0 ≤ rd la cl ∧ rd la cl < out.length ∧ (rd_T40 out (rd la cl)).f0 = cl ∧ (rd_T40 out (rd la cl)).f3 = false
  off : ∀ (cl : Int) (j : Nat), 0 ≤ cl → cl < 16 → j < out.length → (rd_T40 out j).f0 = cl → (rd_T40 out j).f3 = false → rdOf false xs cl = true ∧ (j : Int) = rd la cl
theorem rd_seti (xs : List Int) (a c v : Int) (ha : 0 ≤ a) (hc : 0 ≤ c) (h : a.toNat < xs.length) : rd (xs.set a.toNat v) c = if a = c then v else rd xs c := by
  obtain ⟨n, rfl⟩ := Int.eq_ofNat_of_zero_le ha
  obtain ⟨m, rfl⟩ := Int.eq_ofNat_of_zero_le hc
  simp only [rd, Int.toNat_natCast, List.getD_eq_getElem?_getD] at h ⊢
  by_cases e : n = m
  · subst e; rw [if_pos rfl, List.getElem?_set_self h]; rfl
  · rw [if_neg (by omega), List.getElem?_set_ne e]
theorem rdo_app (out : List S40) (o : S40) (j : Nat) (h : j < out.length) : rd_T40 (out ++ [o]) j = rd_T40 out j := by
  simp only [rd_T40, Int.toNat_natCast, List.getD_eq_getElem?_getD]; rw [List.getElem?_append_left h]
theorem rdo_last (out : List S40) (o : S40) : rd_T40 (out ++ [o]) (out.length : Int) = o := by
  simp [rd_T40]
theorem rdo_set (out : List S40) (o : S40) (i j : Nat) (h : i < out.length) : rd_T40 (out.set i o) j = if i = j then o else rd_T40 out j := by
  simp only [rd_T40, Int.toNat_natCast, List.getD_eq_getElem?_getD]
  by_cases e : i = j
  · subst e; rw [if_pos rfl, List.getElem?_set_self h]; rfl
  · rw [if_neg e, List.getElem?_set_ne e]
theorem Lasts.call {out : List S40} {la : List Int} {xs : List Bool} (h : Lasts out la xs) (x : S44) (n : Nat) (hb : ¬ badE x) (hx : rdOf false xs x.f0 = false) :
    Lasts (out ++ [newO x n]) (la.set x.f0.toNat (out.length : Int)) (xs.set x.f0.toNat true) := by
  unfold badE at hb
  refine ⟨by simpa using h.hl, by simpa using h.hx, fun cl h0 h1 hc => ?_, fun cl j h0 h1 hj hf h3 => ?_⟩
  · rw [rd_seti _ _ _ _ (by omega) h0 (by rw [h.hl]; omega)]
    rw [rdOf_set _ _ _ _ (by omega) h0 (by rw [h.hx]; omega)] at hc
    by_cases e : x.f0 = cl
    · rw [if_pos e]
      rw [rdo_last]
      exact ⟨by omega, by simp; omega, e, rfl⟩
    · rw [if_neg e] at hc ⊢
      obtain ⟨a, b, c, d⟩ := h.on cl h0 h1 hc
      obtain ⟨m, hm⟩ := Int.eq_ofNat_of_zero_le a
      rw [hm] at a b c d ⊢
      rw [rdo_app _ _ _ (by omega)]
      exact ⟨a, by simp; omega, c, d⟩
  · rw [rd_seti _ _ _ _ (by omega) h0 (by rw [h.hl]; omega), rdOf_set _ _ _ _ (by omega) h0 (by rw [h.hx]; omega)]
    rw [List.length_append, List.length_singleton] at hj
    by_cases ej : j = out.length
    · subst ej
      rw [rdo_last] at hf
      have e : x.f0 = cl := hf
      rw [if_pos e, if_pos e]; exact ⟨rfl, rfl⟩
    · rw [rdo_app _ _ _ (by omega)] at hf h3
      obtain ⟨a, b⟩ := h.off cl j h0 h1 (by omega) hf h3
      have e : ¬ x.f0 = cl := by intro e; rw [e, a] at hx; exact absurd hx (by simp)
      rw [if_neg e, if_neg e]; exact ⟨a, b⟩
theorem Lasts.answer {out : List S40} {la : List Int} {xs : List Bool} (h : Lasts out la xs) (x : S44) (n t : Nat) (hb : ¬ badE x) (hx : rdOf false xs x.f0 = true) (ht : rd la x.f0 = t) (o : S40) (h0 : o.f0 = x.f0) (h3 : o.f3 = true) :
    Lasts (out.set t o) la (xs.set x.f0.toNat false) := by
  unfold badE at hb
  obtain ⟨a, b, c, d⟩ := h.on x.f0 (by omega) (by omega) hx
  rw [ht] at a b c d
  refine ⟨h.hl, by simpa using h.hx, fun cl g0 g1 hc => ?_, fun cl j g0 g1 hj hf hf3 => ?_⟩
  · rw [rdOf_set _ _ _ _ (by omega) g0 (by rw [h.hx]; omega)] at hc
    by_cases e : x.f0 = cl
    · rw [if_pos e] at hc; exact absurd hc (by simp)
    · rw [if_neg e] at hc
      obtain ⟨a2, b2, c2, d2⟩ := h.on cl g0 g1 hc
      obtain ⟨m, hm⟩ := Int.eq_ofNat_of_zero_le a2
      rw [hm] at a2 b2 c2 d2 ⊢
      have : ¬ t = m := by intro e2; subst e2; exact e (c.symm.trans c2)
      rw [rdo_set _ _ _ _ (by omega), if_neg this]
      exact ⟨a2, by simp; omega, c2, d2⟩
  · rw [List.length_set] at hj
    rw [rdo_set _ _ _ _ (by omega)] at hf hf3
    by_cases e : t = j
    · rw [if_pos e, h3] at hf3; exact absurd hf3 (by simp)
    · rw [if_neg e] at hf hf3
      obtain ⟨a2, b2⟩ := h.off cl j g0 g1 hj hf hf3
      have e2 : ¬ x.f0 = cl := by intro e2; rw [← e2, ht] at b2; omega
      rw [rdOf_set _ _ _ _ (by omega) g0 (by rw [h.hx]; omega), if_neg e2]; exact ⟨a2, b2⟩
theorem hist_Ops_z : ∀ (l : List S44) (n : Nat) (c : Int) (out : List S40) (la : List Int) (xs : List Bool), Lasts out la xs → (hist_Check.z l n c xs).2 = 0 → out.length + l.length ≤ 1000 →
    hist_Ops.l0 l n out la = some (out.map (clo l n) ++ opsZ l n)
  | [], n, c, out, la, xs, _, _, _ => by
    unfold hist_Ops.l0 opsZ
    have : (fun o => clo [] n o) = id := rfl
    rw [show out.map (clo [] n) = out from by rw [show clo [] n = id from rfl, List.map_id], List.append_nil]
  | x :: l, n, c, out, la, xs, h, hz, hn => by
    by_cases hb : badE x
    · rw [z_bad _ _ _ _ _ hb] at hz; exact absurd hz (by simp)
    · rw [z_ok _ _ _ _ _ hb] at hz
      rw [List.length_cons] at hn
      have hbb := hb
      unfold badE at hbb
      by_cases c1 : x.f1 = true ∧ c = 64
      · rw [if_pos c1] at hz; exact absurd hz (by simp)
      · rw [if_neg c1] at hz
        by_cases c2 : x.f1 = rdOf false xs x.f0
        · rw [if_pos c2] at hz; exact absurd hz (by simp)
        · rw [if_neg c2] at hz
          unfold hist_Ops.l0
          rw [if_pos ⟨by omega, by omega, by omega⟩]
          cases hf : x.f1 with
          | true =>
            rw [hf] at hz c2
            have hx : rdOf false xs x.f0 = false := by cases e : rdOf false xs x.f0 <;> simp_all
            rw [if_pos rfl]
            show hist_Ops.l0 l (n + 1) (out ++ [newO x n]) _ = _
            rw [hist_Ops_z l (n + 1) _ _ _ _ (h.call x n hb hx) hz (by rw [List.length_append, List.length_singleton]; omega)]
            rw [opsZ, if_pos hf, List.map_append, List.append_assoc]
            congr 2
            apply List.map_congr_left
            intro o ho
            rw [clo]
            congr 1
            unfold clo1
            obtain ⟨j, hj, rfl⟩ := List.getElem_of_mem ho
            rw [if_neg]
            rintro ⟨h3, h0⟩
            have e : rd_T40 out j = out[j] := by simp [rd_T40, List.getElem?_eq_getElem hj]
            have := (h.off x.f0 j (by omega) (by omega) hj (by rw [e, ← h0]) (by rw [e]; exact h3)).1
            rw [hx] at this; exact absurd this (by simp)
          | false =>
            rw [hf] at hz c2
            have hx : rdOf false xs x.f0 = true := by cases e : rdOf false xs x.f0 <;> simp_all
            obtain ⟨a, b, c3, d⟩ := h.on x.f0 (by omega) (by omega) hx
            obtain ⟨t, ht⟩ := Int.eq_ofNat_of_zero_le a
            rw [ht] at a b c3 d
            rw [if_neg (by simp), ht, if_pos ⟨a, b⟩, Int.toNat_natCast]
            rw [hist_Ops_z l (n + 1) _ _ _ _ (h.answer x n t hb hx ht ⟨(rd_T40 out t).f0, (rd_T40 out t).f1, (rd_T40 out t).f2, true, x.f3, (rd_T40 out t).f5, n⟩ c3 rfl) hz (by rw [List.length_set]; omega)]
            rw [opsZ, if_neg (by rw [hf]; simp)]
            congr 2
            have e : out.set t ⟨(rd_T40 out t).f0, (rd_T40 out t).f1, (rd_T40 out t).f2, true, x.f3, (rd_T40 out t).f5, n⟩ = out.map (clo1 x n) := by
              apply List.ext_getElem (by simp)
              intro j h1 h2
              rw [List.length_set] at h1
              have ej : rd_T40 out j = out[j] := by simp [rd_T40, List.getElem?_eq_getElem h1]
              rw [List.getElem_set, List.getElem_map]
              unfold clo1
              by_cases e : t = j
              · subst e
                rw [if_pos rfl, ← ej, if_pos ⟨d, c3.symm⟩]
              · rw [if_neg e, if_neg]
                rintro ⟨h3, h0⟩
                have := (h.off x.f0 j (by omega) (by omega) h1 (by rw [ej, ← h0]) (by rw [ej]; exact h3)).2
                omega
            rw [e, List.map_map]; rfl
def opsA (L : List S44) : List S40 × Int := if (chkZ L).2 = 0 then (opsZ L 0, 0) else ([], (chkZ L).2)
theorem Lasts.start : Lasts [] (List.replicate 16 0) (List.replicate 16 false) := by
  refine ⟨rfl, rfl, fun cl h0 h1 hc => ?_, fun cl j _ _ hj => absurd hj (by simp)⟩
  obtain ⟨n, rfl⟩ := Int.eq_ofNat_of_zero_le h0
  have key : ∀ n : Nat, n < 16 → rdOf false (List.replicate 16 false) (n : Int) = false := by decide +kernel
  rw [key n (by omega)] at hc; exact absurd hc (by simp)
theorem hist_Ops_is (L : List S44) (hl : L.length ≤ 1000) : hist_Ops.f L = some (opsA L) := by
  unfold hist_Ops.f opsA
  rw [show hist_Check.f L = some (chkZ L) from rfl]
  simp only [Option.bind_some]
  by_cases c : (chkZ L).2 = 0
  · rw [if_pos c, if_pos c, hist_Ops_z L 0 0 [] _ _ Lasts.start c (by simpa using hl)]; rfl
  · rw [if_neg c, if_neg c]
theorem z_take : ∀ (l : List S44) (i : Nat) (c : Int) (xs : List Bool) (m : Nat),
    ((hist_Check.z l i c xs).2 = 0 → (hist_Check.z (l.take m) i c xs).2 = 0) ∧
    ((hist_Check.z l i c xs).2 ≠ 0 → ∃ k : Nat, (hist_Check.z l i c xs).1 = ((i + k : Nat) : Int) ∧ ((hist_Check.z (l.take m) i c xs).2 ≠ 0 ↔ k < m))
  | [], i, c, xs, m => by simp [hist_Check.z]
  | x :: l, i, c, xs, 0 => by
    refine ⟨fun _ => rfl, fun h => ?_⟩
    have key : ∀ (l : List S44) (i : Nat) (c : Int) (xs : List Bool), (hist_Check.z l i c xs).2 ≠ 0 → ∃ k : Nat, (hist_Check.z l i c xs).1 = ((i + k : Nat) : Int) := by
      intro l
      induction l with
      | nil => intro i c xs h; simp [hist_Check.z] at h
      | cons x l ih =>
        intro i c xs h
        by_cases hb : badE x
        · exact ⟨0, by rw [z_bad _ _ _ _ _ hb]; rfl⟩
        · rw [z_ok _ _ _ _ _ hb] at h ⊢
          split at h
          · rename_i c1; exact ⟨0, by rw [if_pos c1]; rfl⟩
          · rename_i c1
            split at h
            · rename_i c2; exact ⟨0, by rw [if_neg c1, if_pos c2]; rfl⟩
            · rename_i c2
              obtain ⟨k, hk⟩ := ih _ _ _ h
              exact ⟨k + 1, by rw [if_neg c1, if_neg c2, hk]; congr 1; omega⟩
    obtain ⟨k, hk⟩ := key _ _ _ _ h
    exact ⟨k, hk, by simp [hist_Check.z]⟩
  | x :: l, i, c, xs, m + 1 => by
    rw [List.take_succ_cons]
    by_cases hb : badE x
    · rw [z_bad _ _ _ _ _ hb, z_bad _ _ _ _ _ hb]
      exact ⟨fun h => h, fun _ => ⟨0, rfl, by simp⟩⟩
    · rw [z_ok _ _ _ _ _ hb, z_ok _ _ _ _ _ hb]
      by_cases c1 : x.f1 = true ∧ c = 64
      · rw [if_pos c1, if_pos c1]; exact ⟨fun h => h, fun _ => ⟨0, rfl, by simp⟩⟩
      · rw [if_neg c1, if_neg c1]
        by_cases c2 : x.f1 = rdOf false xs x.f0
        · rw [if_pos c2, if_pos c2]; exact ⟨fun h => h, fun _ => ⟨0, rfl, by simp⟩⟩
        · rw [if_neg c2, if_neg c2]
          obtain ⟨h1, h2⟩ := z_take l (i + 1) (if x.f1 = true then c + 1 else c) (xs.set x.f0.toNat x.f1) m
          refine ⟨h1, fun h => ?_⟩
          obtain ⟨k, e1, e2⟩ := h2 h
          exact ⟨k + 1, by rw [e1]; congr 1; omega, e2.trans (by omega)⟩
theorem clo_from : ∀ (l : List S44) (n : Nat) (o : S40), (clo l n o).f5 = o.f5
  | [], n, o => rfl
  | x :: l, n, o => by rw [clo, clo_from l (n + 1)]; unfold clo1; split <;> rfl
theorem clo_take : ∀ (l : List S44) (n m : Nat) (o : S40), o.f3 = false → o.f4 = 0 → o.f6 = -1 → clo (l.take m) n o = trimO ((n + m : Nat) : Int) (clo l n o)
  | [], n, m, o, h3, h4, h6 => by simp [clo, trimO, h6]; omega
  | x :: l, n, 0, o, h3, h4, h6 => by
    rw [List.take_zero, clo]
    have key : ∀ (l : List S44) (k : Nat) (o : S40), n ≤ k → o.f3 = false → o.f4 = 0 → o.f6 = -1 → o = trimO (n : Int) (clo l k o) := by
      intro l
      induction l with
      | nil => intro k o hk h3 h4 h6; simp [clo, trimO, h6]; omega
      | cons x l ih =>
        intro k o hk h3 h4 h6
        rw [clo]
        by_cases hx : o.f3 = false ∧ x.f0 = o.f0
        · have e : clo1 x k o = ⟨o.f0, o.f1, o.f2, true, x.f3, o.f5, k⟩ := if_pos hx
          rw [e, clo_done _ _ _ rfl]
          unfold trimO
          rw [if_pos (by show (n : Int) ≤ (k : Int); omega)]
          cases o; simp_all
        · have e : clo1 x k o = o := if_neg hx
          rw [e]; exact ih (k + 1) o (by omega) h3 h4 h6
    exact key (x :: l) n o (Nat.le_refl _) h3 h4 h6
  | x :: l, n, m + 1, o, h3, h4, h6 => by
    rw [List.take_succ_cons, clo, clo]
    by_cases hx : o.f3 = false ∧ x.f0 = o.f0
    · have e : clo1 x n o = ⟨o.f0, o.f1, o.f2, true, x.f3, o.f5, n⟩ := if_pos hx
      rw [e, clo_done _ _ _ rfl, clo_done _ _ _ rfl]
      unfold trimO
      rw [if_neg (by show ¬ ((n + (m + 1) : Nat) : Int) ≤ (n : Int); omega)]
    · have e : clo1 x n o = o := if_neg hx
      rw [e, clo_take l (n + 1) m o h3 h4 h6, show n + 1 + m = n + (m + 1) from by omega]
theorem opsZ_from : ∀ (l : List S44) (n : Nat) (j : Nat), j < (opsZ l n).length → (n : Int) ≤ (rd_T40 (opsZ l n) (j : Int)).f5
  | [], n, j, h => by simp [opsZ] at h
  | x :: l, n, j, h => by
    rw [opsZ] at h ⊢
    by_cases c : x.f1 = true
    · rw [if_pos c] at h ⊢
      cases j with
      | zero => simp only [rd_T40]; simp [clo_from, newO]
      | succ j =>
        have := opsZ_from l (n + 1) j (by simpa using h)
        simp only [rd_T40, Int.toNat_natCast, List.getD_eq_getElem?_getD, List.getElem?_cons_succ] at this ⊢
        omega
    · rw [if_neg c] at h ⊢
      have := opsZ_from l (n + 1) j h
      omega
theorem rd_cons0 (o : S40) (l : List S40) : rd_T40 (o :: l) ((0 : Nat) : Int) = o := rfl
theorem rd_cons1 (o : S40) (l : List S40) (j : Nat) : rd_T40 (o :: l) ((j + 1 : Nat) : Int) = rd_T40 l (j : Int) := by
  simp only [rd_T40, Int.toNat_natCast, List.getD_eq_getElem?_getD, List.getElem?_cons_succ]
theorem opsZ_take : ∀ (l : List S44) (n m : Nat), (opsZ (l.take m) n).length ≤ (opsZ l n).length ∧ (∀ j, j < (opsZ (l.take m) n).length → rd_T40 (opsZ (l.take m) n) (j : Int) = trimO ((n + m : Nat) : Int) (rd_T40 (opsZ l n) (j : Int))) ∧
    ((opsZ (l.take m) n).length = (opsZ l n).length ∨ ((n + m : Nat) : Int) ≤ (rd_T40 (opsZ l n) ((opsZ (l.take m) n).length : Int)).f5)
  | [], n, m => by simp [opsZ]
  | x :: l, n, 0 => by
    rw [List.take_zero]
    refine ⟨Nat.zero_le _, fun j hj => by simp [opsZ] at hj, ?_⟩
    cases h : (opsZ (x :: l) n).length with
    | zero => exact .inl rfl
    | succ k => exact .inr (by have := opsZ_from (x :: l) n 0 (by omega); simpa [opsZ] using this)
  | x :: l, n, m + 1 => by
    rw [List.take_succ_cons, opsZ, opsZ]
    obtain ⟨h1, h2, h3⟩ := opsZ_take l (n + 1) m
    rw [show n + 1 + m = n + (m + 1) from by omega] at h2 h3
    by_cases c : x.f1 = true
    · rw [if_pos c, if_pos c]
      refine ⟨by simpa using h1, fun j hj => ?_, ?_⟩
      · cases j with
        | zero =>
          rw [rd_cons0, rd_cons0, clo_take l (n + 1) m _ rfl rfl rfl, show n + 1 + m = n + (m + 1) from by omega]
        | succ j => rw [rd_cons1, rd_cons1]; exact h2 j (by simpa using hj)
      · rw [List.length_cons, List.length_cons, rd_cons1]
        rcases h3 with h3 | h3
        · exact .inl (by rw [h3])
        · exact .inr h3
    · rw [if_neg c, if_neg c]; exact ⟨h1, h2, h3⟩
theorem HistLonger : inquestlaw14_HistLonger.Pure := by
  intro l0 a1 hl _ _
  have hLl : (l0.take 128).length ≤ 128 := by rw [List.length_take]; omega
  unfold inquestlaw14_HistLonger.f
  rw [show (128 : Int) = ((128 : Nat) : Int) from rfl, few14 l0 128 (by omega) hl]
  simp only [Option.bind_some]
  generalize l0.take 128 = L at *
  obtain ⟨n, e1, n0, n1⟩ := least01 a1 0 (L.length : Int) (by omega)
  rw [e1]
  simp only [Option.bind_some]
  obtain ⟨n, rfl⟩ := Int.eq_ofNat_of_zero_le n0
  simp only [Int.toNat_natCast]
  rw [hist_Ops_is L (by omega), hist_Ops_is (L.take n) (by rw [List.length_take]; omega), show hist_Check.f L = some (chkZ L) from rfl]
  simp only [Option.bind_some]
  obtain ⟨z1, z2⟩ := z_take L 0 0 (List.replicate 16 false) n
  unfold opsA
  by_cases c : (chkZ L).2 = 0
  · have c' : (chkZ (L.take n)).2 = 0 := z1 c
    rw [if_pos c, if_pos c']
    obtain ⟨h1, h2, h3⟩ := opsZ_take L 0 n
    rw [Nat.zero_add] at h2 h3
    simp only [↓reduceIte]
    rw [if_pos]
    exact ⟨trivial, h1, List.all_eq_true.2 (fun i hi => eq40_to (h2 i (List.mem_range.1 hi))), h3⟩
  · rw [if_neg c]
    simp only [if_neg c]
    obtain ⟨k, e1, e2⟩ := z2 c
    rw [if_pos]
    have e1' : (chkZ L).1 = ((0 + k : Nat) : Int) := e1
    have e2' : (chkZ (L.take n)).2 ≠ 0 ↔ k < n := e2
    rw [e1']
    by_cases hk : k < n
    · have c' := e2'.2 hk
      rw [if_neg c']
      rw [decide_eq_true (by omega)]; simp [c']
    · have c' : (chkZ (L.take n)).2 = 0 := by
        by_cases c'' : (chkZ (L.take n)).2 = 0
        · exact c''
        · exact absurd (e2'.1 c'') hk
      rw [if_pos c']
      rw [decide_eq_false (by omega)]; simp

end Go.Proofs.Ytofhghpahmeolaa.Pure
