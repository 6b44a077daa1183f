/- The law HistBefore answers true at every input: what is before is an order, of any operations of a history. No condition. The printed texts and the row beside it were written by wip/bin/pp.sh of this session. -/
import Derived.Test.YtofhghpahmeolaaPHistBeforex4
namespace Go.Proofs.Ytofhghpahmeolaa.Pure
open Go.RowKit Go.Proofs.Ytofhghpahmeolaa.PHistBefore Go.Proofs.YtofhghpahmeolaaW.PrintWords Go.Proofs.YtofhghpahmeolaaW.PrintLast Go.Proofs.YtofhghpahmeolaaW.PrintMore
set_option linter.unusedVariables false
set_option linter.unusedSimpArgs false
theorem w64 {i : Int} (h : -9223372036854775808 ≤ i) (h' : i ≤ 9223372036854775807) : wrap64 i = i := by unfold wrap64; omega
theorem wf_u64 {a : Int} (h : (Lit.int .u64 a).wf = true) : 0 ≤ a ∧ a < 18446744073709551616 := by
  simp [Lit.wf, IntKind.min, IntKind.max, IntKind.signed, IntKind.bits] at h; omega
theorem wf_i64 {a : Int} (h : (Lit.int .i64 a).wf = true) : -9223372036854775808 ≤ a ∧ a ≤ 9223372036854775807 := by
  simp [Lit.wf, IntKind.min, IntKind.max, IntKind.signed, IntKind.bits] at h; omega
theorem wf_u32 {a : Int} (h : (Lit.int .u32 a).wf = true) : 0 ≤ a ∧ a < 4294967296 := by
  simp [Lit.wf, IntKind.min, IntKind.max, IntKind.signed, IntKind.bits] at h; omega
theorem wu64 (n : Int) : IntKind.u64.wrap n = n % 18446744073709551616 := by simp [IntKind.wrap, IntKind.bits, IntKind.signed]
theorem wu32 (n : Int) : IntKind.u32.wrap n = n % 4294967296 := by simp [IntKind.wrap, IntKind.bits, IntKind.signed]
theorem wi64 (n : Int) : IntKind.i64.wrap n = wrap64 n := by
  simp [IntKind.wrap, IntKind.bits, IntKind.signed, wrap64]; split <;> omega
theorem least01 (a lo hi : Int) (h : lo ≤ hi) : ∃ r, inquestref01_Least.f a lo hi = some r ∧ lo ≤ r ∧ r ≤ hi := by
  unfold inquestref01_Least.f
  by_cases c : a < lo
  · exact ⟨lo, by rw [if_pos c], by omega, by omega⟩
  · rw [if_neg c]
    by_cases d : a > hi
    · exact ⟨hi, by rw [if_pos d], by omega, by omega⟩
    · exact ⟨a, by rw [if_neg d], by omega, by omega⟩
def chkZ (L : List S44) : Int × Int := hist_Check.z L 0 0 (List.replicate 16 false)
theorem r14_Check_is (L : List S44) (hl : L.length ≤ 1000) : inquestref14_Check.f L = some (chkZ L) := if_pos hl
theorem few14 (l : List S44) (n : Nat) (hn : n ≤ 1000) (h : l.length ≤ maxLen) : inquestref14_Few.f l n = some (l.take n) := by
  unfold inquestref14_Few.f
  have e : ([] : List S44).length = 0 := rfl
  by_cases c : l.length ≤ n
  · rw [if_neg (by omega), if_pos (by rw [e]; omega), List.take_of_length_le c]; rfl
  · rw [if_pos (by omega), if_pos (by omega), if_pos (by omega)]
    simp only [Option.bind_some, Int.toNat_natCast]
    rw [if_pos (by rw [e, List.length_take]; omega)]; rfl
theorem lives14 : inquestlaw14_lives.f = some true := by decide +kernel
def clo1 (x : S44) (n : Nat) (o : S40) : S40 := if o.f3 = false ∧ x.f0 = o.f0 then ⟨o.f0, o.f1, o.f2, true, x.f3, o.f5, n⟩ else o
/-- An operation, and the events behind it. -/
def clo : List S44 → Nat → S40 → S40
  | [], _, o => o
  | x :: l, n, o => clo l (n + 1) (clo1 x n o)
def newO (x : S44) (n : Nat) : S40 := ⟨x.f0, x.f2, x.f3, false, 0, n, -1⟩
def opsZ : List S44 → Nat → List S40
  | [], _ => []
  | x :: l, n => if x.f1 = true then clo l (n + 1) (newO x n) :: opsZ l (n + 1) else opsZ l (n + 1)
theorem clo_done : ∀ (l : List S44) (n : Nat) (o : S40), o.f3 = true → clo l n o = o
  | [], _, _, _ => rfl
  | x :: l, n, o, h => by
    have e : clo1 x n o = o := by unfold clo1; rw [if_neg (by rw [h]; simp)]
    rw [clo, e]; exact clo_done l (n + 1) o h
theorem opsZ_len : ∀ (l : List S44) (n : Nat), (opsZ l n).length ≤ l.length
  | [], _ => by simp [opsZ]
  | x :: l, n => by rw [opsZ]; have := opsZ_len l (n + 1); split <;> simp <;> omega
structure Lasts (out : List S40) (la : List Int) (xs : List Bool) : Prop where
  hl : la.length = 16
  hx : xs.length = 16
  on : ∀ cl : Int, 0 ≤ cl → cl < 16 → rdOf false xs cl = true → 0 ≤ rd la cl ∧ rd la cl < out.length ∧ (rd_T40 out (rd la cl)).f0 = cl ∧ (rd_T40 out (rd la cl)).f3 = false
  off : ∀ (cl : Int) (j : Nat), 0 ≤ cl → cl < 16 → j < out.length → (rd_T40 out j).f0 = cl → (rd_T40 out j).f3 = false → rdOf false xs cl = true ∧ (j : Int) = rd la cl
theorem rd_seti (xs : List Int) (a c v : Int) (ha : 0 ≤ a) (hc : 0 ≤ c) (h : a.toNat < xs.length) : rd (xs.set a.toNat v) c = if a = c then v else rd xs c := by
  obtain ⟨n, rfl⟩ := Int.eq_ofNat_of_zero_le ha
  obtain ⟨m, rfl⟩ := Int.eq_ofNat_of_zero_le hc
  simp only [rd, Int.toNat_natCast, List.getD_eq_getElem?_getD] at h ⊢
  by_cases e : n = m
  · subst e; rw [if_pos rfl, List.getElem?_set_self h]; rfl
  · rw [if_neg (by omega), List.getElem?_set_ne e]
theorem rdo_app (out : List S40) (o : S40) (j : Nat) (h : j < out.length) : rd_T40 (out ++ [o]) j = rd_T40 out j := by
  simp only [rd_T40, Int.toNat_natCast, List.getD_eq_getElem?_getD]; rw [List.getElem?_append_left h]
theorem rdo_last (out : List S40) (o : S40) : rd_T40 (out ++ [o]) (out.length : Int) = o := by
  simp [rd_T40]
theorem rdo_set (out : List S40) (o : S40) (i j : Nat) (h : i < out.length) : rd_T40 (out.set i o) j = if i = j then o else rd_T40 out j := by
  simp only [rd_T40, Int.toNat_natCast, List.getD_eq_getElem?_getD]
  by_cases e : i = j
  · subst e; rw [if_pos rfl, List.getElem?_set_self h]; rfl
  · rw [if_neg e, List.getElem?_set_ne e]
theorem Lasts.call {out : List S40} {la : List Int} {xs : List Bool} (h : Lasts out la xs) (x : S44) (n : Nat) (hb : ¬ badE x) (hx : rdOf false xs x.f0 = false) :
    Lasts (out ++ [newO x n]) (la.set x.f0.toNat (out.length : Int)) (xs.set x.f0.toNat true) := by
  unfold badE at hb
  refine ⟨by simpa using h.hl, by simpa using h.hx, fun cl h0 h1 hc => ?_, fun cl j h0 h1 hj hf h3 => ?_⟩
  · rw [rd_seti _ _ _ _ (by omega) h0 (by rw [h.hl]; omega)]
    rw [rdOf_set _ _ _ _ (by omega) h0 (by rw [h.hx]; omega)] at hc
    by_cases e : x.f0 = cl
    · rw [if_pos e]
      rw [rdo_last]
      exact ⟨by omega, by simp; omega, e, rfl⟩
    · rw [if_neg e] at hc ⊢
      obtain ⟨a, b, c, d⟩ := h.on cl h0 h1 hc
      obtain ⟨m, hm⟩ := Int.eq_ofNat_of_zero_le a
      rw [hm] at a b c d ⊢
      rw [rdo_app _ _ _ (by omega)]
      exact ⟨a, by simp; omega, c, d⟩
  · rw [rd_seti _ _ _ _ (by omega) h0 (by rw [h.hl]; omega), rdOf_set _ _ _ _ (by omega) h0 (by rw [h.hx]; omega)]
    rw [List.length_append, List.length_singleton] at hj
    by_cases ej : j = out.length
    · subst ej
      rw [rdo_last] at hf
      have e : x.f0 = cl := hf
      rw [if_pos e, if_pos e]; exact ⟨rfl, rfl⟩
    · rw [rdo_app _ _ _ (by omega)] at hf h3
      obtain ⟨a, b⟩ := h.off cl j h0 h1 (by omega) hf h3
      have e : ¬ x.f0 = cl := by intro e; rw [e, a] at hx; exact absurd hx (by simp)
      rw [if_neg e, if_neg e]; exact ⟨a, b⟩
theorem Lasts.answer {out : List S40} {la : List Int} {xs : List Bool} (h : Lasts out la xs) (x : S44) (n t : Nat) (hb : ¬ badE x) (hx : rdOf false xs x.f0 = true) (ht : rd la x.f0 = t) (o : S40) (h0 : o.f0 = x.f0) (h3 : o.f3 = true) :
    Lasts (out.set t o) la (xs.set x.f0.toNat false) := by
  unfold badE at hb
  obtain ⟨a, b, c, d⟩ := h.on x.f0 (by omega) (by omega) hx
  rw [ht] at a b c d
  refine ⟨h.hl, by simpa using h.hx, fun cl g0 g1 hc => ?_, fun cl j g0 g1 hj hf hf3 => ?_⟩
  · rw [rdOf_set _ _ _ _ (by omega) g0 (by rw [h.hx]; omega)] at hc
    by_cases e : x.f0 = cl
    · rw [if_pos e] at hc; exact absurd hc (by simp)
    · rw [if_neg e] at hc
      obtain ⟨a2, b2, c2, d2⟩ := h.on cl g0 g1 hc
      obtain ⟨m, hm⟩ := Int.eq_ofNat_of_zero_le a2
      rw [hm] at a2 b2 c2 d2 ⊢
      have : ¬ t = m := by intro e2; subst e2; exact e (c.symm.trans c2)
      rw [rdo_set _ _ _ _ (by omega), if_neg this]
      exact ⟨a2, by simp; omega, c2, d2⟩
  · rw [List.length_set] at hj
    rw [rdo_set _ _ _ _ (by omega)] at hf hf3
    by_cases e : t = j
    · rw [if_pos e, h3] at hf3; exact absurd hf3 (by simp)
    · rw [if_neg e] at hf hf3
      obtain ⟨a2, b2⟩ := h.off cl j g0 g1 hj hf hf3
      have e2 : ¬ x.f0 = cl := by intro e2; rw [← e2, ht] at b2; omega
      rw [rdOf_set _ _ _ _ (by omega) g0 (by rw [h.hx]; omega), if_neg e2]; exact ⟨a2, b2⟩
theorem hist_Ops_z : ∀ (l : List S44) (n : Nat) (c : Int) (out : List S40) (la : List Int) (xs : List Bool), Lasts out la xs → (hist_Check.z l n c xs).2 = 0 → out.length + l.length ≤ 1000 →
    hist_Ops.l0 l n out la = some (out.map (clo l n) ++ opsZ l n)
  | [], n, c, out, la, xs, _, _, _ => by
    unfold hist_Ops.l0 opsZ
    have : (fun o => clo [] n o) = id := rfl
    rw [show out.map (clo [] n) = out from by rw [show clo [] n = id from rfl, List.map_id], List.append_nil]
  | x :: l, n, c, out, la, xs, h, hz, hn => by
    by_cases hb : badE x
    · rw [z_bad _ _ _ _ _ hb] at hz; exact absurd hz (by simp)
    · rw [z_ok _ _ _ _ _ hb] at hz
      rw [List.length_cons] at hn
      have hbb := hb
      unfold badE at hbb
      by_cases c1 : x.f1 = true ∧ c = 64
      · rw [if_pos c1] at hz; exact absurd hz (by simp)
      · rw [if_neg c1] at hz
        by_cases c2 : x.f1 = rdOf false xs x.f0
        · rw [if_pos c2] at hz; exact absurd hz (by simp)
        · rw [if_neg c2] at hz
          unfold hist_Ops.l0
          rw [if_pos ⟨by omega, by omega, by omega⟩]
          cases hf : x.f1 with
          | true =>
            rw [hf] at hz c2
            have hx : rdOf false xs x.f0 = false := by cases e : rdOf false xs x.f0 <;> simp_all
            rw [if_pos rfl]
            show hist_Ops.l0 l (n + 1) (out ++ [newO x n]) _ = _
            rw [hist_Ops_z l (n + 1) _ _ _ _ (h.call x n hb hx) hz (by rw [List.length_append, List.length_singleton]; omega)]
            rw [opsZ, if_pos hf, List.map_append, List.append_assoc]
            congr 2
            apply List.map_congr_left
            intro o ho
            rw [clo]
            congr 1
            unfold clo1
            obtain ⟨j, hj, rfl⟩ := List.getElem_of_mem ho
            rw [if_neg]
            rintro ⟨h3, h0⟩
            have e : rd_T40 out j = out[j] := by simp [rd_T40, List.getElem?_eq_getElem hj]
            have := (h.off x.f0 j (by omega) (by omega) hj (by rw [e, ← h0]) (by rw [e]; exact h3)).1
            rw [hx] at this; exact absurd this (by simp)
          | false =>
            rw [hf] at hz c2
            have hx : rdOf false xs x.f0 = true := by cases e : rdOf false xs x.f0 <;> simp_all
            obtain ⟨a, b, c3, d⟩ := h.on x.f0 (by omega) (by omega) hx
            obtain ⟨t, ht⟩ := Int.eq_ofNat_of_zero_le a
            rw [ht] at a b c3 d
            rw [if_neg (by simp), ht, if_pos ⟨a, b⟩, Int.toNat_natCast]
            rw [hist_Ops_z l (n + 1) _ _ _ _ (h.answer x n t hb hx ht ⟨(rd_T40 out t).f0, (rd_T40 out t).f1, (rd_T40 out t).f2, true, x.f3, (rd_T40 out t).f5, n⟩ c3 rfl) hz (by rw [List.length_set]; omega)]
            rw [opsZ, if_neg (by rw [hf]; simp)]
            congr 2
            have e : out.set t ⟨(rd_T40 out t).f0, (rd_T40 out t).f1, (rd_T40 out t).f2, true, x.f3, (rd_T40 out t).f5, n⟩ = out.map (clo1 x n) := by
              apply List.ext_getElem (by simp)
              intro j h1 h2
              rw [List.length_set] at h1
              have ej : rd_T40 out j = out[j] := by simp [rd_T40, List.getElem?_eq_getElem h1]
              rw [List.getElem_set, List.getElem_map]
              unfold clo1
              by_cases e : t = j
              · subst e
                rw [if_pos rfl, ← ej, if_pos ⟨d, c3.symm⟩]
              · rw [if_neg e, if_neg]
                rintro ⟨h3, h0⟩
                have := (h.off x.f0 j (by omega) (by omega) h1 (by rw [ej, ← h0]) (by rw [ej]; exact h3)).2
                omega
            rw [e, List.map_map]; rfl
def opsA (L : List S44) : List S40 × Int := if (chkZ L).2 = 0 then (opsZ L 0, 0) else ([], (chkZ L).2)
theorem Lasts.start : Lasts [] (List.replicate 16 0) (List.replicate 16 false) := by
  refine ⟨rfl, rfl, fun cl h0 h1 hc => ?_, fun cl j _ _ hj => absurd hj (by simp)⟩
  obtain ⟨n, rfl⟩ := Int.eq_ofNat_of_zero_le h0
  have key : ∀ n : Nat, n < 16 → rdOf false (List.replicate 16 false) (n : Int) = false := by decide +kernel
  rw [key n (by omega)] at hc; exact absurd hc (by simp)
theorem hist_Ops_is (L : List S44) (hl : L.length ≤ 1000) : hist_Ops.f L = some (opsA L) := by
  unfold hist_Ops.f opsA
  rw [show hist_Check.f L = some (chkZ L) from rfl]
  simp only [Option.bind_some]
  by_cases c : (chkZ L).2 = 0
  · rw [if_pos c, if_pos c, hist_Ops_z L 0 0 [] _ _ Lasts.start c (by simpa using hl)]; rfl
  · rw [if_neg c, if_neg c]
theorem r14_Ops_l1 (L : List S44) (i : Nat) (hi : i < L.length) (hl : L.length ≤ 1000) (out : List S40) (ho : out.length ≤ 1000) (R : List S40 × Int) : ∀ (d j : Nat) (o : S40), L.length - j = d → j ≤ L.length → o.f0 = (rd_T44 L i).f0 →
    Ev (fun k => inquestref14_Ops.l0 k L (out ++ [clo (L.drop j) j o]) ((i + 1 : Nat) : Int)) R → Ev (fun k => inquestref14_Ops.l1 k L out i j o.f0 o.f1 o.f2 o.f3 o.f4 o.f5 o.f6) R := by
  have w1 : wrap64 ((i : Int) + 1) = ((i + 1 : Nat) : Int) := by rw [w64 (by omega) (by omega)]; rfl
  have fin : ∀ (j : Nat) (o : S40), Ev (fun k => inquestref14_Ops.l0 k L (out ++ [o]) ((i + 1 : Nat) : Int)) R → Ev (fun k => inquestref14_Ops.j2 k L out i j false o.f0 o.f1 o.f2 o.f3 o.f4 o.f5 o.f6) R := by
    intro j o h
    refine Ev.step (fun k => ?_) h
    simp only [inquestref14_Ops.j2]
    rw [if_neg (by simp), if_pos (by omega), w1]
  have dn : ∀ (j : Nat) (o : S40), o.f3 = true → Ev (fun k => inquestref14_Ops.l0 k L (out ++ [o]) ((i + 1 : Nat) : Int)) R → Ev (fun k => inquestref14_Ops.l1 k L out i j o.f0 o.f1 o.f2 o.f3 o.f4 o.f5 o.f6) R := by
    intro j o h3 h
    refine Ev.step (fun k => ?_) (fin j o h)
    simp only [inquestref14_Ops.l1]
    rw [h3]
    split <;> rfl
  intro d
  induction d with
  | zero =>
    intro j o hd hj h0 h
    rw [List.drop_of_length_le (by omega)] at h
    refine Ev.step (fun k => ?_) (fin j o h)
    simp only [inquestref14_Ops.l1]; rw [if_neg (by omega)]
  | succ d ih =>
    intro j o hd hj h0 h
    have hlt : j < L.length := by omega
    have wj : wrap64 ((j : Int) + 1) = ((j + 1 : Nat) : Int) := by rw [w64 (by omega) (by omega)]; rfl
    cases h3 : o.f3 with
    | true =>
      rw [clo_done _ _ _ h3] at h
      have := dn j o h3 h
      rw [h3] at this; exact this
    | false =>
      rw [drop_cons44 L j hlt, clo] at h
      refine Ev.step (f := fun k => inquestref14_Ops.j2 k L out i j true o.f0 o.f1 o.f2 false o.f4 o.f5 o.f6) (fun k => ?_) ?_
      · simp only [inquestref14_Ops.l1]; rw [if_pos (by omega)]; rfl
      · by_cases c : (rd_T44 L j).f0 = (rd_T44 L i).f0
        · have e : clo1 (rd_T44 L j) j o = ⟨o.f0, o.f1, o.f2, true, (rd_T44 L j).f3, o.f5, j⟩ := by unfold clo1; rw [if_pos ⟨h3, by rw [h0]; exact c⟩]
          rw [e, clo_done _ _ _ rfl] at h
          have g := dn (j + 1) ⟨o.f0, o.f1, o.f2, true, (rd_T44 L j).f3, o.f5, j⟩ rfl h
          refine Ev.step (fun k => ?_) g
          simp only [inquestref14_Ops.j2]
          rw [if_pos trivial, if_pos (by omega), if_pos (by omega), if_pos (by omega), if_pos (by omega), if_pos c, wj]
        · have e : clo1 (rd_T44 L j) j o = o := by unfold clo1; rw [if_neg (by rw [h0]; exact fun h => c h.2)]
          rw [e] at h
          have g := ih (j + 1) o (by omega) (by omega) h0 h
          rw [h3] at g
          refine Ev.step (fun k => ?_) g
          simp only [inquestref14_Ops.j2]
          rw [if_pos trivial, if_pos (by omega), if_pos (by omega), if_pos (by omega), if_pos (by omega), if_neg c, wj]
theorem r14_Ops_l0 (d : Nat) : ∀ (L : List S44) (out : List S40) (i : Nat), L.length ≤ 1000 → L.length - i = d → i ≤ L.length → out.length ≤ i → Ev (fun k => inquestref14_Ops.l0 k L out i) (out ++ opsZ (L.drop i) i, 0) := by
  induction d with
  | zero =>
    intro L out i hl hd hi ho
    rw [List.drop_of_length_le (by omega), opsZ, List.append_nil]
    refine Ev.step (f := fun _ => some (out, 0)) (fun k => ?_) (Ev.now _)
    simp only [inquestref14_Ops.l0]; rw [if_neg (by omega)]
  | succ d ih =>
    intro L out i hl hd hi ho
    have hlt : i < L.length := by omega
    have w1 : wrap64 ((i : Int) + 1) = ((i + 1 : Nat) : Int) := by rw [w64 (by omega) (by omega)]; rfl
    rw [drop_cons44 L i hlt, opsZ]
    cases hf : (rd_T44 L i).f1 with
    | true =>
      rw [if_pos rfl]
      have g := ih L (out ++ [clo (L.drop (i + 1)) (i + 1) (newO (rd_T44 L i) i)]) (i + 1) hl (by omega) (by omega) (by rw [List.length_append, List.length_singleton]; omega)
      rw [List.append_assoc] at g
      have g2 := r14_Ops_l1 L i hlt hl out (by omega) _ (L.length - (i + 1)) (i + 1) (newO (rd_T44 L i) i) rfl (by omega) rfl g
      refine Ev.step (fun k => ?_) g2
      simp only [inquestref14_Ops.l0]
      rw [if_pos (by omega), if_pos (by omega), if_pos hf, w1]; rfl
    | false =>
      rw [if_neg (by simp)]
      refine Ev.step (fun k => ?_) (ih L out (i + 1) hl (by omega) (by omega) (by omega))
      simp only [inquestref14_Ops.l0]
      rw [if_pos (by omega), if_pos (by omega), if_neg (by rw [hf]; simp), w1]
theorem r14_Ops_ev (L : List S44) (hl : L.length ≤ 1000) : Ev (fun k => inquestref14_Ops.f k L) (opsA L) := by
  unfold inquestref14_Ops.f opsA
  rw [r14_Check_is L hl]
  simp only [Option.bind_some]
  by_cases c : (chkZ L).2 = 0
  · rw [if_pos c]
    refine Ev.congr (fun k => if_pos c) ?_
    have g := r14_Ops_l0 L.length L [] 0 hl (by omega) (by omega) (by simp)
    exact g
  · rw [if_neg c]
    exact Ev.congr (fun k => if_neg c) (Ev.now _)
theorem clo_to : ∀ (l : List S44) (k : Nat) (o : S40), o.f3 = false → (clo l k o).f3 = true → (k : Int) ≤ (clo l k o).f6
  | [], k, o, h, h3 => by rw [clo, h] at h3; cases h3
  | x :: l, k, o, h, h3 => by
    rw [clo] at h3 ⊢
    by_cases hx : o.f3 = false ∧ x.f0 = o.f0
    · have e : clo1 x k o = ⟨o.f0, o.f1, o.f2, true, x.f3, o.f5, k⟩ := if_pos hx
      rw [e, clo_done _ _ _ rfl]; exact Int.le_refl _
    · have e : clo1 x k o = o := if_neg hx
      rw [e] at h3 ⊢
      have := clo_to l (k + 1) o h h3
      omega
theorem clo_from : ∀ (l : List S44) (n : Nat) (o : S40), (clo l n o).f5 = o.f5
  | [], n, o => rfl
  | x :: l, n, o => by rw [clo, clo_from l (n + 1)]; unfold clo1; split <;> rfl
theorem opsZ_in : ∀ (l : List S44) (n : Nat) (o : S40), o ∈ opsZ l n → o.f3 = true → o.f5 < o.f6
  | [], n, o, h => by simp [opsZ] at h
  | x :: l, n, o, h => by
    rw [opsZ] at h
    by_cases c : x.f1 = true
    · rw [if_pos c] at h
      rcases List.mem_cons.1 h with rfl | h
      · intro h3
        have h1 := clo_to l (n + 1) (newO x n) rfl h3
        rw [clo_from] at *
        have : (newO x n).f5 = (n : Int) := rfl
        rw [this]; omega
      · exact opsZ_in l (n + 1) o h
    · rw [if_neg c] at h; exact opsZ_in l (n + 1) o h
theorem befB_ok {a b c : S40} (ha : a.f3 = true → a.f5 < a.f6) (hb : b.f3 = true → b.f5 < b.f6) : befB a b c = true := by
  unfold befB hb_bef
  cases h1 : a.f3 <;> cases h2 : b.f3 <;> simp only [Bool.false_and, Bool.true_and, Bool.not_false, Bool.true_or, Bool.and_true, Bool.not_true]
  all_goals
    have ha' := ha
    rw [h1] at ha'
    by_cases c1 : a.f6 < b.f5 <;> by_cases c2 : b.f6 < c.f5 <;> by_cases c3 : a.f6 < c.f5 <;> by_cases c4 : a.f6 < a.f5 <;> by_cases c5 : b.f6 < a.f5 <;> simp [c1, c2, c3, c4, c5] <;> (first | omega | (have := ha h1; omega) | (have := ha h1; have := hb h2; omega) | (have := hb h2; omega))
theorem HistBefore : inquestlaw14_HistBefore.Pure := by
  intro l0 a1 a2 a3 hl _ _ _ _
  have hLl : (l0.take 128).length ≤ 128 := by rw [List.length_take]; omega
  refine Ev.rounds ?_
  unfold inquestlaw14_HistBefore.f
  rw [show (128 : Int) = ((128 : Nat) : Int) from rfl, few14 l0 128 (by omega) hl]
  simp only [Option.bind_some]
  generalize l0.take 128 = L at *
  refine Ev.bind (r14_Ops_ev L (by omega)) ?_
  by_cases hz : (opsA L).2 ≠ 0 ∨ (opsA L).1.length = 0
  · exact Ev.congr (fun k => if_pos hz) (Ev.now true)
  · refine Ev.congr (fun k => if_neg hz) ?_
    have hc : (chkZ L).2 = 0 := by
      by_cases c : (chkZ L).2 = 0
      · exact c
      · exact absurd (Or.inl (by unfold opsA; rw [if_neg c]; exact c)) hz
    have ho : (opsA L).1 = opsZ L 0 := by unfold opsA; rw [if_pos hc]
    rw [ho] at hz ⊢
    have hle := opsZ_len L 0
    refine Ev.congr (fun k => if_neg (by omega)) ?_
    have hpos : 0 < (opsZ L 0).length := by omega
    obtain ⟨ia, e1, x1, x2⟩ := least01 a1 0 (((opsZ L 0).length : Int) - 1) (by omega)
    obtain ⟨ib, e2, y1, y2⟩ := least01 a2 0 (((opsZ L 0).length : Int) - 1) (by omega)
    obtain ⟨ic, e3, z1, z2⟩ := least01 a3 0 (((opsZ L 0).length : Int) - 1) (by omega)
    have hin : ∀ i : Int, 0 ≤ i → i < ((opsZ L 0).length : Int) → rd_T40 (opsZ L 0) i ∈ opsZ L 0 := by
      intro i h0 h1
      have : i.toNat < (opsZ L 0).length := by omega
      rw [show rd_T40 (opsZ L 0) i = (opsZ L 0)[i.toNat] from by simp [rd_T40, List.getElem?_eq_getElem this]]
      exact List.getElem_mem this
    refine Ev.congr (fun k => ?_) (Ev.now true)
    rw [e1, e2, e3]
    simp only [Option.bind_some]
    rw [if_pos (befB_ok (opsZ_in L 0 _ (hin ia x1 (by omega))) (opsZ_in L 0 _ (hin ib y1 (by omega))))]

end Go.Proofs.Ytofhghpahmeolaa.Pure
