/- The law FrameSums answers true at every input: the sum of any bytes is the document's, and frames are as long as it says. No condition. -/
import Derived.Test.YtcbkkgodlnofmaaPFrameSumsx1
namespace Go.Proofs.Ytcbkkgodlnofmaa.Pure
open Go.RowKit Go.Proofs.Ytcbkkgodlnofmaa.PFrameSums Go.Proofs.YtcbkkgodlnofmaaW.PrintWords Go.Proofs.YtcbkkgodlnofmaaW.PrintLast Go.Proofs.YtcbkkgodlnofmaaW.PrintMore
set_option linter.unusedVariables false
set_option linter.unusedSimpArgs false
theorem w64 {i : Int} (h : -9223372036854775808 ≤ i) (h' : i ≤ 9223372036854775807) : wrap64 i = i := by unfold wrap64; omega
theorem wf_u64 {a : Int} (h : (Lit.int .u64 a).wf = true) : 0 ≤ a ∧ a < 18446744073709551616 := by
  simp [Lit.wf, IntKind.min, IntKind.max, IntKind.signed, IntKind.bits] at h; omega
theorem wf_i64 {a : Int} (h : (Lit.int .i64 a).wf = true) : -9223372036854775808 ≤ a ∧ a ≤ 9223372036854775807 := by
  simp [Lit.wf, IntKind.min, IntKind.max, IntKind.signed, IntKind.bits] at h; omega
theorem wf_u32 {a : Int} (h : (Lit.int .u32 a).wf = true) : 0 ≤ a ∧ a < 4294967296 := by
  simp [Lit.wf, IntKind.min, IntKind.max, IntKind.signed, IntKind.bits] at h; omega
theorem wu64 (n : Int) : IntKind.u64.wrap n = n % 18446744073709551616 := by simp [IntKind.wrap, IntKind.bits, IntKind.signed]
theorem wu32 (n : Int) : IntKind.u32.wrap n = n % 4294967296 := by simp [IntKind.wrap, IntKind.bits, IntKind.signed]
theorem wi64 (n : Int) : IntKind.i64.wrap n = wrap64 n := by
  simp [IntKind.wrap, IntKind.bits, IntKind.signed, wrap64]; split <;> omega
theorem bx_u64 (x y : Int) : Go.bits .xor .u64 x y = IntKind.u64.wrap ((BitVec.ofInt 64 x ^^^ BitVec.ofInt 64 y).toNat : Int) := rfl
theorem bx_i64 (x y : Int) : Go.bits .xor .i64 x y = IntKind.i64.wrap ((BitVec.ofInt 64 x ^^^ BitVec.ofInt 64 y).toNat : Int) := rfl
theorem ba_u64 (x y : Int) : Go.bits .and .u64 x y = IntKind.u64.wrap ((BitVec.ofInt 64 x &&& BitVec.ofInt 64 y).toNat : Int) := rfl
theorem bo_u64 (x y : Int) : Go.bits .or .u64 x y = IntKind.u64.wrap ((BitVec.ofInt 64 x ||| BitVec.ofInt 64 y).toNat : Int) := rfl
theorem bx_u32 (x y : Int) : Go.bits .xor .u32 x y = IntKind.u32.wrap ((BitVec.ofInt 32 x ^^^ BitVec.ofInt 32 y).toNat : Int) := rfl
theorem ba_u32 (x y : Int) : Go.bits .and .u32 x y = IntKind.u32.wrap ((BitVec.ofInt 32 x &&& BitVec.ofInt 32 y).toNat : Int) := rfl
theorem bo_u32 (x y : Int) : Go.bits .or .u32 x y = IntKind.u32.wrap ((BitVec.ofInt 32 x ||| BitVec.ofInt 32 y).toNat : Int) := rfl
theorem bo_u8 (x y : Int) : Go.bits .or .u8 x y = IntKind.u8.wrap ((BitVec.ofInt 8 x ||| BitVec.ofInt 8 y).toNat : Int) := rfl
theorem ba_u8 (x y : Int) : Go.bits .and .u8 x y = IntKind.u8.wrap ((BitVec.ofInt 8 x &&& BitVec.ofInt 8 y).toNat : Int) := rfl
theorem least01 (a lo hi : Int) (h : lo ≤ hi) : ∃ r, inquestref01_Least.f a lo hi = some r ∧ lo ≤ r ∧ r ≤ hi := by
  unfold inquestref01_Least.f
  by_cases c : a < lo
  · exact ⟨lo, by rw [if_pos c], by omega, by omega⟩
  · rw [if_neg c]
    by_cases d : a > hi
    · exact ⟨hi, by rw [if_pos d], by omega, by omega⟩
    · exact ⟨a, by rw [if_neg d], by omega, by omega⟩
theorem same01_l0 (d : Nat) : ∀ (a b : List Int) (i : Nat), a.length = b.length → a.length ≤ 9223372036854775806 → a.length - i = d → i ≤ a.length →
    Ev (fun k => inquestref01_Same.l0 k a b i) (decide (a.drop i = b.drop i)) := by
  induction d with
  | zero =>
    intro a b i h hl hd hi
    refine ⟨1, fun k hk => ?_⟩
    obtain ⟨k, rfl⟩ : ∃ j, k = j + 1 := ⟨k - 1, by omega⟩
    simp only [inquestref01_Same.l0]; rw [if_neg (by omega), List.drop_of_length_le (by omega), List.drop_of_length_le (by omega)]; simp
  | succ d ih =>
    intro a b i h hl hd hi
    have e : (a.drop i = b.drop i) ↔ (rd a i = rd b i ∧ a.drop (i + 1) = b.drop (i + 1)) := by
      rw [List.drop_eq_getElem_cons (show i < a.length by omega), List.drop_eq_getElem_cons (show i < b.length by omega), List.cons.injEq]
      simp [rd, List.getElem?_eq_getElem (show i < a.length by omega), List.getElem?_eq_getElem (show i < b.length by omega)]
    by_cases c : rd a i = rd b i
    · have h' := ih a b (i + 1) h hl (by omega) (by omega)
      rw [show decide (a.drop i = b.drop i) = decide (a.drop (i + 1) = b.drop (i + 1)) from by simp [e, c]]
      refine Ev.step (fun k => ?_) h'
      simp only [inquestref01_Same.l0]
      rw [if_pos (by omega), if_pos (by omega), if_pos (by omega), if_pos c, w64 (by omega) (by omega)]; rfl
    · refine ⟨1, fun k hk => ?_⟩
      obtain ⟨k, rfl⟩ : ∃ j, k = j + 1 := ⟨k - 1, by omega⟩
      simp only [inquestref01_Same.l0]
      rw [if_pos (by omega), if_pos (by omega), if_pos (by omega), if_neg c]; simp [e, c]
/-- What Same answers: whether the lists are the same. -/
theorem same01 (a b : List Int) (hl : a.length ≤ 9223372036854775806) : Ev (fun k => inquestref01_Same.f k a b) (decide (a = b)) := by
  by_cases h : a.length = b.length
  · have h' := same01_l0 a.length a b 0 h hl (by omega) (by omega)
    simp only [List.drop_zero] at h'
    refine Ev.congr (fun k => ?_) h'
    unfold inquestref01_Same.f
    rw [if_pos (by omega)]; rfl
  · have n : a ≠ b := fun e => h (by rw [e])
    rw [decide_eq_false n]
    refine Ev.congr (fun k => ?_) (Ev.now false)
    unfold inquestref01_Same.f
    rw [if_neg (by omega)]
theorem same01_t (a b : List Int) (hl : a.length ≤ 9223372036854775806) (h : a = b) : Ev (fun k => inquestref01_Same.f k a b) true := by
  have := same01 a b hl; rwa [decide_eq_true h] at this
theorem rd_drop (l : List Int) (i : Nat) (h : i < l.length) : l.drop i = rd l i :: l.drop (i + 1) := by
  rw [List.drop_eq_getElem_cons h]; congr 1; simp [rd, List.getElem?_eq_getElem h]
theorem rd_mem (l : List Int) (i : Nat) (h : i < l.length) : rd l i ∈ l := by
  simp [rd, List.getElem?_eq_getElem h]
theorem cut01 (l : List Int) (n : Nat) : inquestref01_Cut.f l n = some (l.take n) := by
  unfold inquestref01_Cut.f
  by_cases c : l.length ≤ n
  · rw [if_neg (by omega), List.take_of_length_le c]
  · rw [if_pos (by omega), if_pos (by omega), if_pos (by omega), Int.toNat_natCast]
theorem copy01 (l : List Int) (h : l.length < 140737488355328) : inquestref01_Copy.f l = some l := by
  unfold inquestref01_Copy.f
  rw [if_pos (by simpa using h)]; rfl
theorem wf_u8 {x : Int} (h : (Lit.int .u8 x).wf = true) : 0 ≤ x ∧ x < 256 := by
  simp [Lit.wf, IntKind.min, IntKind.max, IntKind.signed, IntKind.bits] at h; omega
theorem wf_u8s {l : List Int} (h : ∀ x ∈ l, (Lit.int .u8 x).wf = true) : ∀ x ∈ l, 0 ≤ x ∧ x < 256 := fun x hx => wf_u8 (h x hx)
theorem u32_toNat (c : BitVec 32) : IntKind.u32.wrap (c.toNat : Int) = (c.toNat : Int) := by have := c.isLt; rw [wu32]; omega
theorem ofI (c : BitVec 32) : BitVec.ofInt 32 (c.toNat : Int) = c := by rw [BitVec.ofInt_natCast, BitVec.ofNat_toNat, BitVec.setWidth_eq]
theorem bx32 (x y : Int) : Go.bits .xor .u32 x y = ((BitVec.ofInt 32 x ^^^ BitVec.ofInt 32 y).toNat : Int) := by rw [bx_u32, u32_toNat]
theorem ba32 (x y : Int) : Go.bits .and .u32 x y = ((BitVec.ofInt 32 x &&& BitVec.ofInt 32 y).toNat : Int) := by rw [ba_u32, u32_toNat]
/-- One bit of the sum. -/
def crcStep (c : BitVec 32) : BitVec 32 := (c >>> 1) ^^^ (if c.toNat % 2 = 1 then 0xedb88320#32 else 0#32)
/-- So many bits. -/
def crcSteps : Nat → BitVec 32 → BitVec 32
  | 0, c => c
  | n + 1, c => crcSteps n (crcStep c)
/-- A row of bytes. -/
def crcL : List Int → BitVec 32 → BitVec 32
  | [], c => c
  | x :: l, c => crcL l (crcSteps 8 (c ^^^ BitVec.ofInt 32 x))
def sumZ (l : List Int) : Int := ((~~~ (crcL l (BitVec.allOnes 32))).toNat : Int)
theorem sumZ_bd (l : List Int) : 0 ≤ sumZ l ∧ sumZ l < 4294967296 := by unfold sumZ; have := (~~~ (crcL l (BitVec.allOnes 32))).isLt; omega
theorem ofI_half (c : BitVec 32) : BitVec.ofInt 32 ((c.toNat : Int) / 2) = c >>> 1 := by
  apply BitVec.eq_of_toNat_eq
  rw [BitVec.toNat_ofInt, BitVec.toNat_ushiftRight, Nat.shiftRight_eq_div_pow]
  have := c.isLt; omega
theorem crcStep_go (c : BitVec 32) : Go.bits .xor .u32 ((c.toNat : Int) / 2) (Go.bits .and .u32 3988292384 ((-(Go.bits .and .u32 (c.toNat : Int) 1)) % 4294967296)) = ((crcStep c).toNat : Int) := by
  have h1 : Go.bits .and .u32 (c.toNat : Int) 1 = (c.toNat : Int) % 2 := by
    rw [ba32, BitVec.toNat_and, show (BitVec.ofInt 32 1).toNat = 1 from by decide, Nat.and_one_is_mod, ofI]; omega
  rw [h1, bx32, ofI_half]
  unfold crcStep
  by_cases h : c.toNat % 2 = 1
  · rw [if_pos h, show ((c.toNat : Int) % 2) = 1 from by omega, show Go.bits .and .u32 3988292384 (-1 % 4294967296) = 3988292384 from by decide +kernel]; rfl
  · rw [if_neg h, show ((c.toNat : Int) % 2) = 0 from by omega, show Go.bits .and .u32 3988292384 (-0 % 4294967296) = 0 from by decide +kernel]; rfl
theorem frame_Sum_l1 (d : Nat) : ∀ (c : BitVec 32) (l : List Int) (n i : Int) (j : Nat) (r : Int), 8 - j = d → j ≤ 8 →
    Ev (fun k => frame_Sum.l0 k ((crcSteps d c).toNat : Int) l n (wrap64 (i + 1))) r → Ev (fun k => frame_Sum.l1 k (c.toNat : Int) l n i j) r := by
  induction d with
  | zero =>
    intro c l n i j r hd hj h
    refine Ev.step (fun k => ?_) h
    simp only [frame_Sum.l1]; rw [if_neg (by omega)]; rfl
  | succ d ih =>
    intro c l n i j r hd hj h
    refine Ev.step (fun k => ?_) (ih (crcStep c) l n i (j + 1) r (by omega) (by omega) h)
    simp only [frame_Sum.l1]; rw [if_pos (by omega), crcStep_go, w64 (by omega) (by omega)]; rfl
theorem frame_Sum_l0 (d : Nat) : ∀ (l : List Int) (c : BitVec 32) (i : Nat), (∀ x ∈ l, 0 ≤ x ∧ x < 256) → l.length - i = d → i ≤ l.length → l.length ≤ 140737488351232 →
    Ev (fun k => frame_Sum.l0 k (c.toNat : Int) l (l.length : Int) i) (((~~~ (crcL (l.drop i) c)).toNat : Nat) : Int) := by
  induction d with
  | zero =>
    intro l c i hb hd hi hl
    refine Ev.step (f := fun _ => some (((~~~ c).toNat : Nat) : Int)) (fun k => ?_) (by rw [List.drop_of_length_le (by omega)]; exact Ev.now _)
    simp only [frame_Sum.l0]; rw [if_neg (by omega), bx32, ofI, show BitVec.ofInt 32 4294967295 = BitVec.allOnes 32 from by decide, BitVec.allOnes_xor]
  | succ d ih =>
    intro l c i hb hd hi hl
    have hc := hb _ (rd_mem l i (by omega))
    have g := ih l (crcSteps 8 (c ^^^ BitVec.ofInt 32 (rd l i))) (i + 1) hb (by omega) (by omega) hl
    rw [rd_drop l i (by omega)]
    have g2 := frame_Sum_l1 8 (c ^^^ BitVec.ofInt 32 (rd l i)) l (l.length : Int) i 0 _ rfl (by omega) (by rw [w64 (by omega) (by omega)]; exact g)
    refine Ev.step (fun k => ?_) g2
    simp only [frame_Sum.l0]
    rw [if_pos (by omega), if_pos (by omega), if_pos (by omega), Int.emod_eq_of_lt (by omega) (by omega), bx32, ofI]; rfl
theorem frame_Sum_ev (l : List Int) (hb : ∀ x ∈ l, 0 ≤ x ∧ x < 256) (hl : l.length ≤ 140737488351232) : Ev (fun k => frame_Sum.f k l) (sumZ l) := by
  have g := frame_Sum_l0 l.length l (BitVec.allOnes 32) 0 hb rfl (by omega) hl
  exact g
theorem frame_Size_is (n : Int) (h0 : -1099511627776 ≤ n) (h1 : n ≤ 1099511627776) : frame_Size.f n = some (20 + mx n 0) := by
  unfold frame_Size.f mx
  by_cases c : n < 0
  · simp only [c, if_true]; rw [if_neg (by omega), w64 (by omega) (by omega)]; rfl
  · simp only [c, if_false]; rw [if_neg (by omega), w64 (by omega) (by omega)]; congr 1; omega
theorem lives08 : Ev (fun k => inquestlaw08_lives.f k) true := by
  refine Ev.bind (f := fun _ (t : Int) => (if t = 3421780262 then ((frame_Size.f 0).bind fun t116 => (some (t116 == 20))) else (some false))) (frame_Sum_ev [49, 50, 51, 52, 53, 54, 55, 56, 57] (by decide) (by decide)) ?_
  rw [show sumZ [49, 50, 51, 52, 53, 54, 55, 56, 57] = 3421780262 from by decide +kernel, if_pos rfl]
  exact Ev.congr (fun _ => (by decide +kernel : _ = some true)) (Ev.now true)
theorem r08_shifted_l0 (d : Nat) : ∀ (c : BitVec 32) (j : Nat), 8 - j = d → j ≤ 8 → Ev (fun k => inquestref08_shifted.l0 k (c.toNat : Int) j) ((crcSteps d c).toNat : Int) := by
  induction d with
  | zero =>
    intro c j hd hj
    refine Ev.step (f := fun _ => some (c.toNat : Int)) (fun k => ?_) (Ev.now _)
    simp only [inquestref08_shifted.l0]; rw [if_neg (by omega)]
  | succ d ih =>
    intro c j hd hj
    have lt := c.isLt
    refine Ev.step (fun k => ?_) (ih (crcStep c) (j + 1) (by omega) (by omega))
    simp only [inquestref08_shifted.l0]
    rw [if_pos (by omega), Int.tmod_eq_emod_of_nonneg (by omega), Int.tdiv_eq_ediv_of_nonneg (by omega), Int.emod_eq_of_lt (a := (c.toNat : Int) / 2) (by omega) (by omega), w64 (by omega) (by omega)]
    unfold crcStep
    by_cases h : c.toNat % 2 = 1
    · rw [if_pos (by omega), if_pos h, bx32, ofI_half]; rfl
    · rw [if_neg (by omega), if_neg h, ← ofI_half, BitVec.xor_zero, BitVec.toNat_ofInt]
      congr 1; omega
theorem r08_Sum_l0 (d : Nat) : ∀ (l : List Int) (c : BitVec 32) (i : Nat), (∀ x ∈ l, 0 ≤ x ∧ x < 256) → l.length - i = d → i ≤ l.length → l.length ≤ 140737488351232 →
    Ev (fun k => inquestref08_Sum.l0 k l (c.toNat : Int) i) (((~~~ (crcL (l.drop i) c)).toNat : Nat) : Int) := by
  induction d with
  | zero =>
    intro l c i hb hd hi hl
    refine Ev.step (f := fun _ => some (((~~~ c).toNat : Nat) : Int)) (fun k => ?_) (by rw [List.drop_of_length_le (by omega)]; exact Ev.now _)
    simp only [inquestref08_Sum.l0]; rw [if_neg (by omega), bx32, ofI, show BitVec.ofInt 32 4294967295 = BitVec.allOnes 32 from by decide, BitVec.xor_allOnes]
  | succ d ih =>
    intro l c i hb hd hi hl
    have hc := hb _ (rd_mem l i (by omega))
    have g := ih l (crcSteps 8 (c ^^^ BitVec.ofInt 32 (rd l i))) (i + 1) hb (by omega) (by omega) hl
    rw [rd_drop l i (by omega)]
    have g1 := r08_shifted_l0 8 (c ^^^ BitVec.ofInt 32 (rd l i)) 0 rfl (by omega)
    refine Ev.step (f := fun k => (inquestref08_shifted.f k ((c ^^^ BitVec.ofInt 32 (rd l i)).toNat : Int)).bind fun t149 => (inquestref08_Sum.l0 k l t149 (wrap64 ((i : Int) + 1)))) (fun k => ?_) ?_
    · simp only [inquestref08_Sum.l0]
      rw [if_pos (by omega), if_pos (by omega), Int.emod_eq_of_lt (by omega) (by omega), bx32, ofI]
    · refine Ev.bind (f := fun k t149 => (inquestref08_Sum.l0 k l t149 (wrap64 ((i : Int) + 1)))) g1 ?_
      rw [w64 (by omega) (by omega)]; exact g
theorem r08_Sum_ev (l : List Int) (hb : ∀ x ∈ l, 0 ≤ x ∧ x < 256) (hl : l.length ≤ 140737488351232) : Ev (fun k => inquestref08_Sum.f k l) (sumZ l) := by
  have g := r08_Sum_l0 l.length l (BitVec.allOnes 32) 0 hb rfl (by omega) hl
  exact g
theorem FrameSums : inquestlaw08_FrameSums.Pure := by
  intro b n _ hl hb hn
  have hb := wf_u8s hb
  obtain ⟨n, hn, n0, n1⟩ := least01 n (-1099511627776) 1099511627776 (by omega)
  refine Ev.rounds ?_
  have hc : inquestref01_Cut.f b 20000 = some (b.take 20000) := cut01 b 20000
  have hb' : ∀ c ∈ b.take 20000, 0 ≤ c ∧ c < 256 := fun c hc => hb c (List.mem_of_mem_take hc)
  have l20 : (b.take 20000).length ≤ 20000 := by rw [List.length_take]; omega
  unfold inquestlaw08_FrameSums.f
  rw [hc, hn]
  simp only [Option.bind_some, copy01 (b.take 20000) (by omega)]
  generalize b.take 20000 = l at hb' l20
  rw [frame_Size_is n n0 n1]
  have hm : 20 + mx n 0 = wrap64 (20 + mx n 0) := by unfold mx; split <;> rw [w64 (by omega) (by omega)]
  refine Ev.bind (f := fun k t126 => ((inquestref08_Sum.f k l).bind fun t127 => (if t126 = t127 then ((inquestref01_Same.f k l l).bind fun t128 => (if t128 = true then ((some (20 + mx n 0)).bind fun t129 => (if t129 = (wrap64 (20 + (mx n 0))) then ((inquestlaw08_lives.f k).bind fun t130 => (some t130)) else (some false))) else (some false))) else (some false)))) (frame_Sum_ev l hb' (by omega)) ?_
  refine Ev.bind (f := fun k t127 => (if sumZ l = t127 then ((inquestref01_Same.f k l l).bind fun t128 => (if t128 = true then ((some (20 + mx n 0)).bind fun t129 => (if t129 = (wrap64 (20 + (mx n 0))) then ((inquestlaw08_lives.f k).bind fun t130 => (some t130)) else (some false))) else (some false))) else (some false))) (r08_Sum_ev l hb' (by omega)) ?_
  simp only [if_true]
  refine Ev.bind (f := fun k t128 => (if t128 = true then ((some (20 + mx n 0)).bind fun t129 => (if t129 = (wrap64 (20 + (mx n 0))) then ((inquestlaw08_lives.f k).bind fun t130 => (some t130)) else (some false))) else (some false))) (same01_t l l (by omega) rfl) ?_
  simp only [if_true, Option.bind_some, ← hm]
  exact Ev.bind lives08 (Ev.now _)

end Go.Proofs.Ytcbkkgodlnofmaa.Pure
