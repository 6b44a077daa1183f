/- The law FrameBurst answers true at every input: where at most 32 bits in a row of a frame are turned nothing is read of it. No condition. The printed texts beside it were written by wip/bin/pp.sh of this session. -/
import Derived.Test.YtcbkkgodlnofmaaPFrameBurstx2
namespace Go.Proofs.Ytcbkkgodlnofmaa.Pure
open Go.RowKit Go.Proofs.Ytcbkkgodlnofmaa.PFrameBurst Go.Proofs.YtcbkkgodlnofmaaW.PrintWords Go.Proofs.YtcbkkgodlnofmaaW.PrintLast Go.Proofs.YtcbkkgodlnofmaaW.PrintMore
set_option linter.unusedVariables false
set_option linter.unusedSimpArgs false
theorem w64 {i : Int} (h : -9223372036854775808 ≤ i) (h' : i ≤ 9223372036854775807) : wrap64 i = i := by unfold wrap64; omega
theorem wf_u64 {a : Int} (h : (Lit.int .u64 a).wf = true) : 0 ≤ a ∧ a < 18446744073709551616 := by
  simp [Lit.wf, IntKind.min, IntKind.max, IntKind.signed, IntKind.bits] at h; omega
theorem wf_i64 {a : Int} (h : (Lit.int .i64 a).wf = true) : -9223372036854775808 ≤ a ∧ a ≤ 9223372036854775807 := by
  simp [Lit.wf, IntKind.min, IntKind.max, IntKind.signed, IntKind.bits] at h; omega
theorem wf_u32 {a : Int} (h : (Lit.int .u32 a).wf = true) : 0 ≤ a ∧ a < 4294967296 := by
  simp [Lit.wf, IntKind.min, IntKind.max, IntKind.signed, IntKind.bits] at h; omega
theorem wu64 (n : Int) : IntKind.u64.wrap n = n % 18446744073709551616 := by simp [IntKind.wrap, IntKind.bits, IntKind.signed]
theorem wu32 (n : Int) : IntKind.u32.wrap n = n % 4294967296 := by simp [IntKind.wrap, IntKind.bits, IntKind.signed]
theorem wi64 (n : Int) : IntKind.i64.wrap n = wrap64 n := by
  simp [IntKind.wrap, IntKind.bits, IntKind.signed, wrap64]; split <;> omega
theorem bx_u64 (x y : Int) : Go.bits .xor .u64 x y = IntKind.u64.wrap ((BitVec.ofInt 64 x ^^^ BitVec.ofInt 64 y).toNat : Int) := rfl
theorem bx_i64 (x y : Int) : Go.bits .xor .i64 x y = IntKind.i64.wrap ((BitVec.ofInt 64 x ^^^ BitVec.ofInt 64 y).toNat : Int) := rfl
theorem ba_u64 (x y : Int) : Go.bits .and .u64 x y = IntKind.u64.wrap ((BitVec.ofInt 64 x &&& BitVec.ofInt 64 y).toNat : Int) := rfl
theorem bo_u64 (x y : Int) : Go.bits .or .u64 x y = IntKind.u64.wrap ((BitVec.ofInt 64 x ||| BitVec.ofInt 64 y).toNat : Int) := rfl
theorem bx_u32 (x y : Int) : Go.bits .xor .u32 x y = IntKind.u32.wrap ((BitVec.ofInt 32 x ^^^ BitVec.ofInt 32 y).toNat : Int) := rfl
theorem ba_u32 (x y : Int) : Go.bits .and .u32 x y = IntKind.u32.wrap ((BitVec.ofInt 32 x &&& BitVec.ofInt 32 y).toNat : Int) := rfl
theorem bo_u32 (x y : Int) : Go.bits .or .u32 x y = IntKind.u32.wrap ((BitVec.ofInt 32 x ||| BitVec.ofInt 32 y).toNat : Int) := rfl
theorem bo_u8 (x y : Int) : Go.bits .or .u8 x y = IntKind.u8.wrap ((BitVec.ofInt 8 x ||| BitVec.ofInt 8 y).toNat : Int) := rfl
theorem ba_u8 (x y : Int) : Go.bits .and .u8 x y = IntKind.u8.wrap ((BitVec.ofInt 8 x &&& BitVec.ofInt 8 y).toNat : Int) := rfl
theorem least01 (a lo hi : Int) (h : lo ≤ hi) : ∃ r, inquestref01_Least.f a lo hi = some r ∧ lo ≤ r ∧ r ≤ hi := by
  unfold inquestref01_Least.f
  by_cases c : a < lo
  · exact ⟨lo, by rw [if_pos c], by omega, by omega⟩
  · rw [if_neg c]
    by_cases d : a > hi
    · exact ⟨hi, by rw [if_pos d], by omega, by omega⟩
    · exact ⟨a, by rw [if_neg d], by omega, by omega⟩
theorem rd_drop (l : List Int) (i : Nat) (h : i < l.length) : l.drop i = rd l i :: l.drop (i + 1) := by
  rw [List.drop_eq_getElem_cons h]; congr 1; simp [rd, List.getElem?_eq_getElem h]
theorem rd_mem (l : List Int) (i : Nat) (h : i < l.length) : rd l i ∈ l := by
  simp [rd, List.getElem?_eq_getElem h]
theorem cut01 (l : List Int) (n : Nat) : inquestref01_Cut.f l n = some (l.take n) := by
  unfold inquestref01_Cut.f
  by_cases c : l.length ≤ n
  · rw [if_neg (by omega), List.take_of_length_le c]
  · rw [if_pos (by omega), if_pos (by omega), if_pos (by omega), Int.toNat_natCast]
theorem wf_u8 {x : Int} (h : (Lit.int .u8 x).wf = true) : 0 ≤ x ∧ x < 256 := by
  simp [Lit.wf, IntKind.min, IntKind.max, IntKind.signed, IntKind.bits] at h; omega
theorem wf_u8s {l : List Int} (h : ∀ x ∈ l, (Lit.int .u8 x).wf = true) : ∀ x ∈ l, 0 ≤ x ∧ x < 256 := fun x hx => wf_u8 (h x hx)
/-- The bytes of a number, the highest first. -/
def putL (x : Int) : Nat → List Int
  | 0 => []
  | n + 1 => putL (x / 256) n ++ [x % 256]
theorem putL_length (x : Int) (n : Nat) : (putL x n).length = n := by
  induction n generalizing x with
  | zero => rfl
  | succ n ih => simp [putL, ih]
theorem word_Put_l0 (m : Nat) : ∀ (x : Int) (xs : List Int), m ≤ xs.length → xs.length ≤ 8 → Ev (fun k => word_Put.l0 k x xs ((m : Int) - 1)) (putL x m ++ xs.drop m) := by
  induction m with
  | zero =>
    intro x xs _ _
    refine ⟨1, fun k hk => ?_⟩
    obtain ⟨k, rfl⟩ : ∃ j, k = j + 1 := ⟨k - 1, by omega⟩
    simp only [word_Put.l0]; rw [if_neg (by omega)]; simp [putL]
  | succ m ih =>
    intro x xs hm hl
    refine Ev.step (f := fun k => word_Put.l0 k (x / 256) (xs.set m (x % 256)) ((m : Int) - 1)) (fun k => ?_) ?_
    · simp only [word_Put.l0]
      rw [if_pos (by omega), if_pos (by omega), if_pos (by omega), w64 (by omega) (by omega)]
      rw [show ((m + 1 : Nat) : Int) - 1 = (m : Int) from by omega, Int.toNat_natCast]
    · have h := ih (x / 256) (xs.set m (x % 256)) (by simp; omega) (by simp; omega)
      have e : putL (x / 256) m ++ (xs.set m (x % 256)).drop m = putL x (m + 1) ++ xs.drop (m + 1) := by
        rw [List.drop_eq_getElem_cons (by simp; omega)]
        simp only [putL, List.getElem_set_self, List.append_assoc, List.cons_append, List.nil_append]
        congr 2
        rw [List.drop_set_of_lt (by omega)]
      rw [e] at h; exact h
/-- What word.Put answers. -/
theorem word_Put_ev (x n : Int) (h1 : 1 ≤ n) (h8 : n ≤ 8) : Ev (fun k => word_Put.f k x n) (putL x n.toNat) := by
  obtain ⟨m, rfl⟩ := Int.eq_ofNat_of_zero_le (show 0 ≤ n by omega)
  refine Ev.step (f := fun k => word_Put.l0 k x (List.replicate m 0) ((m : Int) - 1)) (fun k => ?_) ?_
  · unfold word_Put.f
    rw [if_neg (by omega), show decide ((m : Int) > 8) = false from decide_eq_false (by omega)]
    simp only [word_Put.j0]
    rw [if_neg (by simp), if_pos (by omega), if_pos (by omega), w64 (by omega) (by omega), Int.toNat_natCast]
  · have h := word_Put_l0 m x (List.replicate m 0) (by simp) (by simp; omega)
    simpa using h
theorem word_Put_none (x n : Int) (h : n < 1 ∨ 8 < n) : Ev (fun k => word_Put.f k x n) [] := by
  refine ⟨1, fun k hk => ?_⟩
  obtain ⟨k, rfl⟩ : ∃ j, k = j + 1 := ⟨k - 1, by omega⟩
  show word_Put.f (k + 1) x n = _
  unfold word_Put.f
  by_cases h1 : n < 1
  · rw [if_pos h1]; simp [word_Put.j0]
  · rw [if_neg h1, show decide (n > 8) = true from decide_eq_true (by omega)]; simp [word_Put.j0]
/-- The number that bytes are, the highest first, behind a number. -/
def getL (x : Int) : List Int → Int
  | [] => x
  | c :: l => getL (x * 256 + c) l
theorem getL_bd : ∀ (l : List Int) (x : Int), 0 ≤ x → (∀ c ∈ l, 0 ≤ c ∧ c < 256) → 0 ≤ getL x l ∧ getL x l < (x + 1) * 256 ^ l.length
  | [], x, h, _ => by simp [getL]; omega
  | c :: l, x, h, hb => by
    have hc := hb c (by simp)
    obtain ⟨i, j⟩ := getL_bd l (x * 256 + c) (by omega) (fun d hd => hb d (by simp [hd]))
    refine ⟨i, Int.lt_of_lt_of_le j ?_⟩
    rw [List.length_cons, Int.pow_succ, show (256 : Int) ^ l.length * 256 = 256 * 256 ^ l.length from Int.mul_comm _ _, ← Int.mul_assoc]
    exact Int.mul_le_mul_of_nonneg_right (by omega) (Int.le_of_lt (Int.pow_pos (by decide)))
theorem pow256_le (n : Nat) (h : n ≤ 8) : (256 : Int) ^ n ≤ 18446744073709551616 := by
  have h2 : (256 : Int) ^ n * 256 ^ (8 - n) = 18446744073709551616 := by rw [← Int.pow_add, show n + (8 - n) = 8 from by omega]; decide
  have h3 : (0 : Int) < 256 ^ (8 - n) := Int.pow_pos (by decide)
  have h4 : (0 : Int) < 256 ^ n := Int.pow_pos (by decide)
  calc (256 : Int) ^ n = 256 ^ n * 1 := by omega
    _ ≤ 256 ^ n * 256 ^ (8 - n) := Int.mul_le_mul_of_nonneg_left (by omega) (by omega)
    _ = _ := h2
theorem or_byte (x c : Int) (h0 : 0 ≤ x) (h1 : x * 256 < 18446744073709551616) (c0 : 0 ≤ c) (c1 : c < 256) : Go.bits .or .u64 (x * 256) c = x * 256 + c := by
  obtain ⟨x, rfl⟩ := Int.eq_ofNat_of_zero_le h0
  obtain ⟨c, rfl⟩ := Int.eq_ofNat_of_zero_le c0
  have e : ((x : Int) * 256) = ((x * 256 : Nat) : Int) := by omega
  rw [e, bo_u64, BitVec.toNat_or, BitVec.toNat_ofInt, BitVec.toNat_ofInt, wu64,
    show (((x * 256 : Nat) : Int) % ((2 ^ 64 : Nat) : Int)).toNat = 2 ^ 8 * x from by omega, show ((c : Int) % ((2 ^ 64 : Nat) : Int)).toNat = c from by omega, ← Nat.two_pow_add_eq_or_of_lt (by omega)]
  omega
theorem word_Get_l0 (d : Nat) : ∀ (l : List Int) (x : Int) (i : Nat), (∀ c ∈ l, 0 ≤ c ∧ c < 256) → l.length - i = d → i ≤ l.length → l.length ≤ 8 → 0 ≤ x → x < 256 ^ i →
    Ev (fun k => word_Get.l0 k x l (l.length : Int) i) (getL x (l.drop i), true) := by
  induction d with
  | zero =>
    intro l x i hb hd hi hl h0 hx
    refine ⟨1, fun k hk => ?_⟩
    obtain ⟨k, rfl⟩ : ∃ j, k = j + 1 := ⟨k - 1, by omega⟩
    simp only [word_Get.l0]; rw [if_neg (by omega), List.drop_of_length_le (by omega)]; rfl
  | succ d ih =>
    intro l x i hb hd hi hl h0 hx
    have hc := hb _ (rd_mem l i (by omega))
    have e : (256 : Int) ^ (i + 1) = 256 ^ i * 256 := Int.pow_succ ..
    have p := pow256_le (i + 1) (by omega)
    have g := ih l (x * 256 + rd l i) (i + 1) hb (by omega) (by omega) hl (by omega) (by omega)
    rw [rd_drop l i (by omega)]
    refine Ev.step (fun k => ?_) g
    simp only [word_Get.l0]
    rw [if_pos (by omega), if_pos (by omega), if_pos (by omega), w64 (by omega) (by omega), wu64 (x * 256), wu64 (rd l i), Int.emod_eq_of_lt (a := x * 256) (by omega) (by omega), Int.emod_eq_of_lt (a := rd l i) (by omega) (by omega), or_byte x _ h0 (by omega) hc.1 hc.2]
    rfl
/-- What Get answers. -/
def getA (l : List Int) : Int × Bool := if l.length < 1 ∨ 8 < l.length then (0, false) else (getL 0 l, true)
theorem word_Get_ev (l : List Int) (hb : ∀ c ∈ l, 0 ≤ c ∧ c < 256) : Ev (fun k => word_Get.f k l) (getA l) := by
  unfold getA
  have no : ∀ b : Bool, b = true → Ev (fun k => word_Get.j0 k l b) (0, false) := fun b hb => Ev.step (f := fun _ => some (0, false)) (fun k => by subst hb; simp [word_Get.j0]) (Ev.now _)
  by_cases h1 : l.length < 1
  · rw [if_pos (by omega)]
    exact Ev.congr (fun k => by unfold word_Get.f; rw [if_pos (by omega)]) (no true rfl)
  · by_cases h8 : 8 < l.length
    · rw [if_pos (by omega)]
      exact Ev.congr (fun k => by unfold word_Get.f; rw [if_neg (by omega)]) (no _ (decide_eq_true (by omega)))
    · rw [if_neg (by omega)]
      refine Ev.step (fun k => ?_) (word_Get_l0 l.length l 0 0 hb (by omega) (by omega) (by omega) (by omega) (by decide))
      unfold word_Get.f
      rw [if_neg (by omega), show decide ((l.length : Int) > 8) = false from decide_eq_false (by omega)]
      simp only [word_Get.j0]; rw [if_neg (by simp)]; rfl
theorem getL_snoc : ∀ (l : List Int) (x c : Int), getL x (l ++ [c]) = getL x l * 256 + c
  | [], x, c => rfl
  | a :: l, x, c => getL_snoc l _ c
theorem getL_putL (n : Nat) : ∀ x : Int, 0 ≤ x → getL 0 (putL x n) = x % 256 ^ n := by
  induction n with
  | zero => intro x _; simp [putL, getL, Int.emod_one]
  | succ n ih =>
    intro x h
    rw [putL, getL_snoc, ih _ (by omega), Int.pow_succ]
    have q : (0 : Int) < 256 ^ n := Int.pow_pos (by decide)
    have h1 := Int.emod_add_mul_ediv x (256 ^ n * 256)
    have h2 := Int.emod_add_mul_ediv (x / 256) (256 ^ n)
    have h3 := Int.emod_add_mul_ediv x 256
    have h4 : x / (256 ^ n * 256) = x / 256 / 256 ^ n := by rw [Int.mul_comm, ← Int.ediv_ediv_of_nonneg (by decide)]
    rw [h4] at h1
    have h5 : 256 ^ n * 256 * (x / 256 / 256 ^ n) = 256 * (256 ^ n * (x / 256 / 256 ^ n)) := by
      rw [Int.mul_comm (256 ^ n) 256, Int.mul_assoc]
    omega
theorem putL_bytes (n : Nat) : ∀ x : Int, ∀ c ∈ putL x n, 0 ≤ c ∧ c < 256 := by
  induction n with
  | zero => intro x c h; simp [putL] at h
  | succ n ih =>
    intro x c h
    rw [putL, List.mem_append] at h
    rcases h with h | h
    · exact ih _ c h
    · have : c = x % 256 := by simpa using h
      omega
theorem u32_toNat (c : BitVec 32) : IntKind.u32.wrap (c.toNat : Int) = (c.toNat : Int) := by have := c.isLt; rw [wu32]; omega
theorem ofI (c : BitVec 32) : BitVec.ofInt 32 (c.toNat : Int) = c := by rw [BitVec.ofInt_natCast, BitVec.ofNat_toNat, BitVec.setWidth_eq]
theorem bx32 (x y : Int) : Go.bits .xor .u32 x y = ((BitVec.ofInt 32 x ^^^ BitVec.ofInt 32 y).toNat : Int) := by rw [bx_u32, u32_toNat]
theorem ba32 (x y : Int) : Go.bits .and .u32 x y = ((BitVec.ofInt 32 x &&& BitVec.ofInt 32 y).toNat : Int) := by rw [ba_u32, u32_toNat]
/-- One bit of the sum. -/
def crcStep (c : BitVec 32) : BitVec 32 := (c >>> 1) ^^^ (if c.toNat % 2 = 1 then 0xedb88320#32 else 0#32)
/-- So many bits. -/
def crcSteps : Nat → BitVec 32 → BitVec 32
  | 0, c => c
  | n + 1, c => crcSteps n (crcStep c)
/-- A row of bytes. -/
def crcL : List Int → BitVec 32 → BitVec 32
  | [], c => c
  | x :: l, c => crcL l (crcSteps 8 (c ^^^ BitVec.ofInt 32 x))
def sumZ (l : List Int) : Int := ((~~~ (crcL l (BitVec.allOnes 32))).toNat : Int)
theorem sumZ_bd (l : List Int) : 0 ≤ sumZ l ∧ sumZ l < 4294967296 := by unfold sumZ; have := (~~~ (crcL l (BitVec.allOnes 32))).isLt; omega
theorem ofI_half (c : BitVec 32) : BitVec.ofInt 32 ((c.toNat : Int) / 2) = c >>> 1 := by
  apply BitVec.eq_of_toNat_eq
  rw [BitVec.toNat_ofInt, BitVec.toNat_ushiftRight, Nat.shiftRight_eq_div_pow]
  have := c.isLt; omega
theorem crcStep_go (c : BitVec 32) : Go.bits .xor .u32 ((c.toNat : Int) / 2) (Go.bits .and .u32 3988292384 ((-(Go.bits .and .u32 (c.toNat : Int) 1)) % 4294967296)) = ((crcStep c).toNat : Int) := by
  have h1 : Go.bits .and .u32 (c.toNat : Int) 1 = (c.toNat : Int) % 2 := by
    rw [ba32, BitVec.toNat_and, show (BitVec.ofInt 32 1).toNat = 1 from by decide, Nat.and_one_is_mod, ofI]; omega
  rw [h1, bx32, ofI_half]
  unfold crcStep
  by_cases h : c.toNat % 2 = 1
  · rw [if_pos h, show ((c.toNat : Int) % 2) = 1 from by omega, show Go.bits .and .u32 3988292384 (-1 % 4294967296) = 3988292384 from by decide +kernel]; rfl
  · rw [if_neg h, show ((c.toNat : Int) % 2) = 0 from by omega, show Go.bits .and .u32 3988292384 (-0 % 4294967296) = 0 from by decide +kernel]; rfl
theorem frame_Sum_l1 (d : Nat) : ∀ (c : BitVec 32) (l : List Int) (n i : Int) (j : Nat) (r : Int), 8 - j = d → j ≤ 8 →
    Ev (fun k => frame_Sum.l0 k ((crcSteps d c).toNat : Int) l n (wrap64 (i + 1))) r → Ev (fun k => frame_Sum.l1 k (c.toNat : Int) l n i j) r := by
  induction d with
  | zero =>
    intro c l n i j r hd hj h
    refine Ev.step (fun k => ?_) h
    simp only [frame_Sum.l1]; rw [if_neg (by omega)]; rfl
  | succ d ih =>
    intro c l n i j r hd hj h
    refine Ev.step (fun k => ?_) (ih (crcStep c) l n i (j + 1) r (by omega) (by omega) h)
    simp only [frame_Sum.l1]; rw [if_pos (by omega), crcStep_go, w64 (by omega) (by omega)]; rfl
theorem frame_Sum_l0 (d : Nat) : ∀ (l : List Int) (c : BitVec 32) (i : Nat), (∀ x ∈ l, 0 ≤ x ∧ x < 256) → l.length - i = d → i ≤ l.length → l.length ≤ 140737488351232 →
    Ev (fun k => frame_Sum.l0 k (c.toNat : Int) l (l.length : Int) i) (((~~~ (crcL (l.drop i) c)).toNat : Nat) : Int) := by
  induction d with
  | zero =>
    intro l c i hb hd hi hl
    refine Ev.step (f := fun _ => some (((~~~ c).toNat : Nat) : Int)) (fun k => ?_) (by rw [List.drop_of_length_le (by omega)]; exact Ev.now _)
    simp only [frame_Sum.l0]; rw [if_neg (by omega), bx32, ofI, show BitVec.ofInt 32 4294967295 = BitVec.allOnes 32 from by decide, BitVec.allOnes_xor]
  | succ d ih =>
    intro l c i hb hd hi hl
    have hc := hb _ (rd_mem l i (by omega))
    have g := ih l (crcSteps 8 (c ^^^ BitVec.ofInt 32 (rd l i))) (i + 1) hb (by omega) (by omega) hl
    rw [rd_drop l i (by omega)]
    have g2 := frame_Sum_l1 8 (c ^^^ BitVec.ofInt 32 (rd l i)) l (l.length : Int) i 0 _ rfl (by omega) (by rw [w64 (by omega) (by omega)]; exact g)
    refine Ev.step (fun k => ?_) g2
    simp only [frame_Sum.l0]
    rw [if_pos (by omega), if_pos (by omega), if_pos (by omega), Int.emod_eq_of_lt (by omega) (by omega), bx32, ofI]; rfl
theorem frame_Sum_ev (l : List Int) (hb : ∀ x ∈ l, 0 ≤ x ∧ x < 256) (hl : l.length ≤ 140737488351232) : Ev (fun k => frame_Sum.f k l) (sumZ l) := by
  have g := frame_Sum_l0 l.length l (BitVec.allOnes 32) 0 hb rfl (by omega) hl
  exact g
theorem frame_Size_is (n : Int) (h0 : -1099511627776 ≤ n) (h1 : n ≤ 1099511627776) : frame_Size.f n = some (20 + mx n 0) := by
  unfold frame_Size.f mx
  by_cases c : n < 0
  · simp only [c, if_true]; rw [if_neg (by omega), w64 (by omega) (by omega)]; rfl
  · simp only [c, if_false]; rw [if_neg (by omega), w64 (by omega) (by omega)]; congr 1; omega
theorem lives08 : Ev (fun k => inquestlaw08_lives.f k) true := by
  refine Ev.bind (f := fun _ (t : Int) => (if t = 3421780262 then ((frame_Size.f 0).bind fun t116 => (some (t116 == 20))) else (some false))) (frame_Sum_ev [49, 50, 51, 52, 53, 54, 55, 56, 57] (by decide) (by decide)) ?_
  rw [show sumZ [49, 50, 51, 52, 53, 54, 55, 56, 57] = 3421780262 from by decide +kernel, if_pos rfl]
  exact Ev.congr (fun _ => (by decide +kernel : _ = some true)) (Ev.now true)
/-- A sum as bytes, the lowest first. -/
def four (c : Int) : List Int := [c % 256, (c / 256) % 256, (c / 65536) % 256, (c / 16777216) % 256]
theorem four_bytes (c : Int) : ∀ x ∈ four c, 0 ≤ x ∧ x < 256 := by
  intro x hx
  simp only [four, List.mem_cons, List.not_mem_nil, or_false] at hx
  omega
def headL (seq n : Int) : List Int := putL n 4 ++ putL seq 8
theorem headL_len (seq n : Int) : (headL seq n).length = 12 := by simp [headL, putL_length]
theorem headL_bytes (seq n : Int) : ∀ c ∈ headL seq n, 0 ≤ c ∧ c < 256 := by
  intro c hc
  rcases List.mem_append.mp hc with h | h
  · exact putL_bytes _ _ c h
  · exact putL_bytes _ _ c h
/-- A frame. -/
def putF (seq : Int) (b : List Int) : List Int := headL seq b.length ++ four (sumZ (headL seq b.length)) ++ b ++ four (sumZ b)
theorem putF_len (seq : Int) (b : List Int) : (putF seq b).length = b.length + 20 := by simp [putF, headL_len, four]; omega
theorem putF_bytes (seq : Int) (b : List Int) (hb : ∀ c ∈ b, 0 ≤ c ∧ c < 256) : ∀ c ∈ putF seq b, 0 ≤ c ∧ c < 256 := by
  intro c hc
  rcases List.mem_append.mp hc with h | h
  · rcases List.mem_append.mp h with h | h
    · rcases List.mem_append.mp h with h | h
      · exact headL_bytes _ _ c h
      · exact four_bytes _ c h
    · exact hb c h
  · exact four_bytes _ c h
def putA (seq : Int) (b : List Int) : List Int × Int := if seq = 0 then ([], 2) else if 16384 < b.length then ([], 5) else (putF seq b, 0)
theorem low_is (c : Int) : frame_low.f c = some (four c) := rfl
theorem frame_Put_ev (seq : Int) (b : List Int) (h0 : 0 ≤ seq) (h1 : seq < 18446744073709551616) (hb : ∀ c ∈ b, 0 ≤ c ∧ c < 256) (hl : b.length ≤ 20000) : Ev (fun k => frame_Put.f k seq b) (putA seq b) := by
  unfold putA
  by_cases c : seq = 0
  · rw [if_pos c]
    refine Ev.congr (fun k => ?_) (Ev.now ([], 2))
    unfold frame_Put.f; rw [if_pos c]
  · rw [if_neg c]
    by_cases d : 16384 < b.length
    · rw [if_pos d]
      refine Ev.congr (fun k => ?_) (Ev.now ([], 5))
      unfold frame_Put.f; rw [if_neg c, if_pos (by omega)]
    · rw [if_neg d]
      refine Ev.congr (fun k => (by unfold frame_Put.f; rw [if_neg c, if_neg (by omega), wu64, Int.emod_eq_of_lt (by omega) (by omega)])) ?_
      refine Ev.bind (word_Put_ev b.length 4 (by omega) (by omega)) ?_
      refine Ev.bind (word_Put_ev seq 8 (by omega) (by omega)) ?_
      have l1 := putL_length (b.length : Int) 4
      have l2 := putL_length seq 8
      have lh := headL_len seq b.length
      have q1 : (putL (b.length : Int) 4).length + (putL seq 8).length < 140737488355328 := by omega
      simp only [show (4 : Int).toNat = 4 from rfl, show (8 : Int).toNat = 8 from rfl, q1, if_true, Option.bind_some]
      simp only [show putL (b.length : Int) 4 ++ putL seq 8 = headL seq b.length from rfl]
      refine Ev.bind (frame_Sum_ev (headL seq b.length) (headL_bytes _ _) (by omega)) ?_
      simp only [low_is, Option.bind_some]
      have lf (c : Int) : (four c).length = 4 := rfl
      have l3 : (headL seq b.length ++ four (sumZ (headL seq b.length))).length = 16 := by simp [lh, lf]
      have l4 : (headL seq b.length ++ four (sumZ (headL seq b.length)) ++ b).length = 16 + b.length := by rw [List.length_append, l3]
      refine Ev.congr (f := fun k => (frame_Sum.f k b).bind fun t143 => if (headL seq b.length ++ four (sumZ (headL seq b.length)) ++ b).length + (four t143).length < 140737488355328 then some ((headL seq b.length ++ four (sumZ (headL seq b.length)) ++ b) ++ four t143, 0) else none) (fun k => ?_) ?_
      · rw [if_pos (by rw [lh, lf]; omega), if_pos (by rw [l3]; omega)]
      · refine Ev.bind (frame_Sum_ev b hb (by omega)) ?_
        exact Ev.congr (fun k => if_pos (by rw [l4, lf]; omega)) (Ev.now _)
theorem mid4 (l : List Int) (a : Nat) (h : a + 4 ≤ l.length) : (l.take (a + 4)).drop a = [rd l a, rd l ((a : Int) + 1), rd l ((a : Int) + 2), rd l ((a : Int) + 3)] := by
  have e (i : Nat) (h : i < l.length) : l[i]? = some (rd l i) := by simp [rd, List.getElem?_eq_getElem h]
  refine List.ext_getElem? fun i => ?_
  rw [List.getElem?_drop, List.getElem?_take]
  match i with
  | 0 => rw [if_pos (by omega), e _ (by omega)]; rfl
  | 1 => rw [if_pos (by omega), e _ (by omega)]; rfl
  | 2 => rw [if_pos (by omega), e _ (by omega)]; rfl
  | 3 => rw [if_pos (by omega), e _ (by omega)]; rfl
  | i + 4 => rw [if_neg (by omega)]; simp
theorem stands_is (l : List Int) (a : Nat) (c : Int) (h : a + 4 ≤ l.length) (hl : l.length ≤ 140737488351232) : frame_stands.f l a c = some (decide ((l.take (a + 4)).drop a = four c)) := by
  unfold frame_stands.f
  rw [mid4 l a h]
  simp only [low_is, Option.bind_some]
  have e0 : rd (four c) 0 = c % 256 := rfl
  have e1 : rd (four c) 1 = (c / 256) % 256 := rfl
  have e2 : rd (four c) 2 = (c / 65536) % 256 := rfl
  have e3 : rd (four c) 3 = (c / 16777216) % 256 := rfl
  have lf : ((four c).length : Int) = 4 := rfl
  rw [w64 (i := (a : Int) + 1) (by omega) (by omega), w64 (i := (a : Int) + 2) (by omega) (by omega), w64 (i := (a : Int) + 3) (by omega) (by omega), lf, e0, e1, e2, e3]
  simp only [show (0 : Int) ≤ a from by omega, show (a : Int) < l.length from by omega, show (0 : Int) < 4 from by omega, show (0 : Int) ≤ a + 1 from by omega, show (a : Int) + 1 < l.length from by omega, show (1 : Int) < 4 from by omega, show (0 : Int) ≤ a + 2 from by omega, show (a : Int) + 2 < l.length from by omega, show (2 : Int) < 4 from by omega, show (0 : Int) ≤ a + 3 from by omega, show (a : Int) + 3 < l.length from by omega, show (3 : Int) < 4 from by omega, if_true]
  unfold four
  by_cases h0 : rd l a = c % 256
  · rw [if_pos h0]
    by_cases h1 : rd l ((a : Int) + 1) = (c / 256) % 256
    · rw [if_pos h1]
      by_cases h2 : rd l ((a : Int) + 2) = (c / 65536) % 256
      · rw [if_pos h2]
        by_cases h3 : rd l ((a : Int) + 3) = (c / 16777216) % 256
        · simp [h0, h1, h2, h3]
        · simp [h0, h1, h2, h3]
      · rw [if_neg h2]; simp [h2]
    · rw [if_neg h1]; simp [h1]
  · rw [if_neg h0]; simp [h0]
def lenF (b : List Int) : Int := getL 0 (b.take 4)
def seqF (b : List Int) : Int := getL 0 ((b.take 12).drop 4)
/-- What is read of bytes. -/
def readF (b : List Int) : Int × List Int × Int × Int :=
  if b.length < 16 then (0, [], 0, 3)
  else if (b.take 16).drop 12 = four (sumZ (b.take 12)) then
    (if seqF b = 0 then (0, [], 0, 4) else if 16384 < lenF b then (0, [], 0, 5) else if b.length < 20 + (lenF b).toNat then (0, [], 0, 3)
     else if (b.take (16 + (lenF b).toNat + 4)).drop (16 + (lenF b).toNat) = four (sumZ ((b.take (16 + (lenF b).toNat)).drop 16)) then (seqF b, (b.take (16 + (lenF b).toNat)).drop 16, lenF b + 20, 0) else (0, [], 0, 13))
  else (0, [], 0, 13)
theorem getA_4 (b : List Int) (h : 16 ≤ b.length) : getA (b.take 4) = (lenF b, true) := by
  unfold getA lenF; rw [if_neg (by rw [List.length_take]; omega)]
theorem getA_8 (b : List Int) (h : 16 ≤ b.length) : getA ((b.take 12).drop 4) = (seqF b, true) := by
  unfold getA seqF; rw [if_neg (by rw [List.length_drop, List.length_take]; omega)]
theorem lenF_bd (b : List Int) (h : 16 ≤ b.length) (hb : ∀ c ∈ b, 0 ≤ c ∧ c < 256) : 0 ≤ lenF b ∧ lenF b < 4294967296 := by
  have := getL_bd (b.take 4) 0 (by omega) (fun c hc => hb c (List.mem_of_mem_take hc))
  rw [List.length_take, show min 4 b.length = 4 from by omega] at this
  refine ⟨this.1, ?_⟩
  have h2 := this.2
  simp only [show (0 : Int) + 1 = 1 from rfl, Int.one_mul] at h2
  exact h2
theorem seqF_bd (b : List Int) (h : 16 ≤ b.length) (hb : ∀ c ∈ b, 0 ≤ c ∧ c < 256) : 0 ≤ seqF b ∧ seqF b < 18446744073709551616 := by
  have := getL_bd ((b.take 12).drop 4) 0 (by omega) (fun c hc => hb c (List.mem_of_mem_take (List.mem_of_mem_drop hc)))
  rw [List.length_drop, List.length_take, show min 12 b.length - 4 = 8 from by omega] at this
  refine ⟨this.1, ?_⟩
  have h2 := this.2
  simp only [show (0 : Int) + 1 = 1 from rfl, Int.one_mul] at h2
  exact h2
theorem readF_err (b : List Int) : (readF b).2.2.2 = 0 ∨ ((readF b).1 = 0 ∧ (readF b).2.1 = [] ∧ (readF b).2.2.1 = 0) := by
  unfold readF
  repeat' split
  all_goals simp
theorem frame_Read_ev (b : List Int) (hb : ∀ c ∈ b, 0 ≤ c ∧ c < 256) (hl : b.length ≤ 40000) : Ev (fun k => frame_Read.f k b) (readF b) := by
  unfold readF
  by_cases c1 : b.length < 16
  · rw [if_pos c1]
    exact Ev.congr (fun k => by unfold frame_Read.f; rw [if_pos (by omega)]) (Ev.now _)
  rw [if_neg c1]
  have hl4 := lenF_bd b (by omega) hb
  have hs8 := seqF_bd b (by omega) hb
  refine Ev.congr (fun k => by unfold frame_Read.f; rw [if_neg (by omega), if_pos (by omega)]) ?_
  refine Ev.bind (frame_Sum_ev (b.take 12) (fun c hc => hb c (List.mem_of_mem_take hc)) (by rw [List.length_take]; omega)) ?_
  have st := stands_is b 12 (sumZ (b.take 12)) (by omega) (by omega)
  simp only [show ((12 : Nat) : Int) = 12 from rfl] at st
  simp only [st, Option.bind_some]
  by_cases c2 : (b.take (12 + 4)).drop 12 = four (sumZ (b.take 12))
  · rw [if_pos c2]
    simp only [decide_eq_true c2, if_true, show (4 : Int) ≤ b.length from by omega]
    have g4 := word_Get_ev (b.take 4) (fun c hc => hb c (List.mem_of_mem_take hc))
    rw [getA_4 b (by omega)] at g4
    refine Ev.bind g4 ?_
    simp only [show (4 : Int) ≤ 12 from by omega, if_true]
    have g8 := word_Get_ev ((b.take 12).drop 4) (fun c hc => hb c (List.mem_of_mem_take (List.mem_of_mem_drop hc)))
    rw [getA_8 b (by omega)] at g8
    refine Ev.bind g8 ?_
    simp only
    by_cases c3 : seqF b = 0
    · rw [if_pos c3]; exact Ev.congr (fun k => by rw [if_pos c3]) (Ev.now _)
    rw [if_neg c3]; refine Ev.congr (fun k => by rw [if_neg c3]) ?_
    by_cases c4 : 16384 < lenF b
    · rw [if_pos c4]; exact Ev.congr (fun k => by rw [if_pos c4]) (Ev.now _)
    rw [if_neg c4]; refine Ev.congr (fun k => by rw [if_neg c4]) ?_
    rw [w64 (i := lenF b) (by omega) (by omega), w64 (i := (b.length : Int) - 20) (by omega) (by omega), w64 (i := 16 + lenF b) (by omega) (by omega), w64 (i := lenF b + 20) (by omega) (by omega)]
    by_cases c5 : b.length < 20 + (lenF b).toNat
    · rw [if_pos c5]; exact Ev.congr (fun k => by rw [if_pos (by omega)]) (Ev.now _)
    rw [if_neg c5]; refine Ev.congr (fun k => by rw [if_neg (by omega), if_pos (by omega), if_pos (by omega)]) ?_
    have e16 : (16 + lenF b).toNat = 16 + (lenF b).toNat := by omega
    have e16' : 16 + lenF b = ((16 + (lenF b).toNat : Nat) : Int) := by omega
    simp only [e16]
    refine Ev.bind (frame_Sum_ev ((b.take (16 + (lenF b).toNat)).drop 16) (fun c hc => hb c (List.mem_of_mem_take (List.mem_of_mem_drop hc))) (by rw [List.length_drop, List.length_take]; omega)) ?_
    have st := stands_is b (16 + (lenF b).toNat) (sumZ ((b.take (16 + (lenF b).toNat)).drop 16)) (by omega) (by omega)
    rw [← e16'] at st
    simp only [st, Option.bind_some]
    by_cases c6 : (b.take (16 + (lenF b).toNat + 4)).drop (16 + (lenF b).toNat) = four (sumZ ((b.take (16 + (lenF b).toNat)).drop 16))
    · rw [if_pos c6]
      have hlt : (([] : List Int).length + ((b.take (16 + (lenF b).toNat)).drop 16).length) < 140737488355328 := by rw [List.length_drop, List.length_take]; simp; omega
      simp only [decide_eq_true c6, if_true, hlt]
      exact Ev.now _
    · rw [if_neg c6]
      simp only [decide_eq_false c6]
      exact Ev.congr (fun k => if_neg (by simp)) (Ev.now _)
  · rw [if_neg c2]
    simp only [decide_eq_false c2]
    exact Ev.congr (fun k => if_neg (by simp)) (Ev.now _)
theorem mid_is (A B C : List Int) (a b : Nat) (ha : A.length = a) (hb : B.length = b) : ((A ++ (B ++ C)).take (a + b)).drop a = B := by
  subst ha hb
  rw [show A ++ (B ++ C) = (A ++ B) ++ C from by simp, List.take_append_of_le_length (by simp), List.take_of_length_le (by simp), List.drop_left]
theorem head_is (A B : List Int) (a : Nat) (ha : A.length = a) : (A ++ B).take a = A := by
  subst ha; rw [List.take_append_of_le_length (by simp), List.take_of_length_le (by simp)]
theorem readF_put (seq : Int) (b rest : List Int) (s0 : 0 < seq) (s1 : seq < 18446744073709551616) (hl : b.length ≤ 16384) (k : List Int) (hk : k = putF seq b ++ rest) :
    (∀ m, m < b.length + 20 → readF (k.take m) = (0, [], 0, 3)) ∧ readF k = (seq, b, (b.length : Int) + 20, 0) := by
  have lf (c : Int) : (four c).length = 4 := rfl
  have lh := headL_len seq b.length
  have kl : b.length + 20 ≤ k.length := by rw [hk, List.length_append, putF_len]; omega
  have ek : k = headL seq b.length ++ (four (sumZ (headL seq b.length)) ++ (b ++ (four (sumZ b) ++ rest))) := by rw [hk]; simp [putF]
  have t12 : k.take 12 = headL seq b.length := by rw [ek]; exact head_is _ _ 12 lh
  have t16 : (k.take 16).drop 12 = four (sumZ (headL seq b.length)) := by rw [ek]; exact mid_is _ _ _ 12 4 lh rfl
  have t4 : k.take 4 = putL (b.length : Int) 4 := by
    rw [show k.take 4 = (k.take 12).take 4 from by rw [List.take_take]; rfl, t12]; exact head_is _ _ 4 (putL_length _ _)
  have t8 : (k.take 12).drop 4 = putL seq 8 := by
    rw [t12]; unfold headL; exact List.drop_left' (putL_length _ _)
  have e4 : lenF k = b.length := by
    unfold lenF; rw [t4, getL_putL _ _ (by omega), Int.emod_eq_of_lt (by omega) (by simp; omega)]
  have e8 : seqF k = seq := by
    unfold seqF; rw [t8, getL_putL _ _ (by omega), Int.emod_eq_of_lt (by omega) (by simpa using s1)]
  have l16 : (headL seq b.length ++ four (sumZ (headL seq b.length))).length = 16 := by simp [lh, lf]
  have tb : (k.take (16 + b.length)).drop 16 = b := by
    rw [ek, show headL seq b.length ++ (four (sumZ (headL seq b.length)) ++ (b ++ (four (sumZ b) ++ rest))) = (headL seq b.length ++ four (sumZ (headL seq b.length))) ++ (b ++ (four (sumZ b) ++ rest)) from by simp]
    exact mid_is _ _ _ 16 b.length l16 rfl
  have tt : (k.take (16 + b.length + 4)).drop (16 + b.length) = four (sumZ b) := by
    rw [ek, show headL seq b.length ++ (four (sumZ (headL seq b.length)) ++ (b ++ (four (sumZ b) ++ rest))) = (headL seq b.length ++ four (sumZ (headL seq b.length)) ++ b) ++ (four (sumZ b) ++ rest) from by simp]
    exact mid_is _ _ _ (16 + b.length) 4 (by rw [List.length_append, l16]) rfl
  constructor
  · intro m hm
    have ml : (k.take m).length = m := by rw [List.length_take]; omega
    unfold readF
    by_cases c1 : m < 16
    · rw [if_pos (by omega)]
    · have f12 : (k.take m).take 12 = k.take 12 := by rw [List.take_take]; congr 1; omega
      have f16 : (k.take m).take 16 = k.take 16 := by rw [List.take_take]; congr 1; omega
      have g4 : lenF (k.take m) = b.length := by rw [← e4]; unfold lenF; rw [List.take_take]; congr 2; omega
      have g8 : seqF (k.take m) = seq := by rw [← e8]; unfold seqF; rw [f12]
      rw [if_neg (by omega), f16, f12, t16, t12, if_pos rfl, g4, g8, if_neg (by omega), if_neg (by omega), if_pos (by omega)]
  · unfold readF
    rw [if_neg (by omega), t16, t12, if_pos rfl, e4, e8, if_neg (by omega), if_neg (by omega), if_neg (by omega), Int.toNat_natCast, tt, tb, if_pos rfl]
theorem crcStep_xor (a b : BitVec 32) : crcStep (a ^^^ b) = crcStep a ^^^ crcStep b := by
  unfold crcStep
  rw [BitVec.ushiftRight_xor_distrib]
  have h : (a ^^^ b).toNat % 2 = (a.toNat + b.toNat) % 2 := by
    have e : (a.toNat ^^^ b.toNat) % 2 = (a.toNat % 2) ^^^ (b.toNat % 2) := by simpa using Nat.xor_mod_two_pow (a := a.toNat) (b := b.toNat) (n := 1)
    rw [BitVec.toNat_xor, e]
    rcases Nat.mod_two_eq_zero_or_one a.toNat with ha | ha <;> rcases Nat.mod_two_eq_zero_or_one b.toNat with hb | hb <;> rw [ha, hb]
    · show 0 = _; omega
    · show 1 = _; omega
    · show 1 = _; omega
    · show 0 = _; omega
  rw [h]
  by_cases ha : a.toNat % 2 = 1
  · by_cases hb : b.toNat % 2 = 1
    · rw [if_pos ha, if_pos hb, if_neg (by omega), BitVec.xor_zero]
      rw [show a >>> 1 ^^^ 0xedb88320#32 ^^^ (b >>> 1 ^^^ 0xedb88320#32) = (a >>> 1 ^^^ b >>> 1) ^^^ (0xedb88320#32 ^^^ 0xedb88320#32) from by ac_rfl, BitVec.xor_self, BitVec.xor_zero]
    · rw [if_pos ha, if_neg hb, if_pos (by omega), BitVec.xor_zero]; ac_rfl
  · by_cases hb : b.toNat % 2 = 1
    · rw [if_neg ha, if_pos hb, if_pos (by omega), BitVec.xor_zero]; ac_rfl
    · rw [if_neg ha, if_neg hb, if_neg (by omega), BitVec.xor_zero, BitVec.xor_zero, BitVec.xor_zero]
theorem crcStep_ne (c : BitVec 32) (h : c ≠ 0#32) : crcStep c ≠ 0#32 := by
  intro e
  unfold crcStep at e
  have hs : (c >>> 1).toNat = c.toNat / 2 := by rw [BitVec.toNat_ushiftRight, Nat.shiftRight_eq_div_pow]
  have lt := c.isLt
  by_cases hc : c.toNat % 2 = 1
  · rw [if_pos hc] at e
    have e2 : c >>> 1 = 0xedb88320#32 := by
      have := congrArg (· ^^^ 0xedb88320#32) e
      simpa [BitVec.xor_assoc] using this
    rw [e2] at hs
    have : (0xedb88320#32 : BitVec 32).toNat = 3988292384 := by decide
    omega
  · rw [if_neg hc, BitVec.xor_zero] at e
    rw [e] at hs
    have z : (0#32 : BitVec 32).toNat = 0 := rfl
    exact h (BitVec.eq_of_toNat_eq (by rw [z]; omega))
theorem crcSteps_ne (n : Nat) : ∀ c : BitVec 32, c ≠ 0#32 → crcSteps n c ≠ 0#32 := by
  induction n with
  | zero => intro c h; exact h
  | succ n ih => intro c h; exact ih _ (crcStep_ne c h)
theorem crcSteps_zero (n : Nat) : crcSteps n 0#32 = 0#32 := by
  induction n with
  | zero => rfl
  | succ n ih => exact ih
/-- The number that bits are, the lowest first. -/
def bnum : List Bool → Nat
  | [] => 0
  | b :: l => b.toNat + 2 * bnum l
theorem bnum_lt : ∀ l : List Bool, bnum l < 2 ^ l.length
  | [] => by simp [bnum]
  | b :: l => by
    have := bnum_lt l
    have hb : b.toNat ≤ 1 := by cases b <;> simp
    rw [List.length_cons, Nat.pow_succ]; unfold bnum; omega
theorem bnum_append : ∀ (a b : List Bool), bnum (a ++ b) = bnum a + 2 ^ a.length * bnum b
  | [], b => by simp [bnum]
  | x :: a, b => by
    rw [List.cons_append, bnum, bnum, bnum_append a b, List.length_cons, Nat.pow_succ]
    rw [Nat.mul_add, Nat.mul_comm (2 ^ a.length) 2, Nat.mul_assoc]; omega
/-- Bit by bit. -/
def crcBits : List Bool → BitVec 32 → BitVec 32
  | [], c => c
  | b :: l, c => crcBits l (crcStep (c ^^^ BitVec.ofNat 32 b.toNat))
theorem crcBits_append : ∀ (a b : List Bool) (c : BitVec 32), crcBits (a ++ b) c = crcBits b (crcBits a c)
  | [], _, _ => rfl
  | x :: a, b, c => by rw [List.cons_append, crcBits, crcBits, crcBits_append a b]
theorem crcBits_num : ∀ (l : List Bool) (c : BitVec 32), l.length ≤ 32 → crcBits l c = crcSteps l.length (c ^^^ BitVec.ofNat 32 (bnum l))
  | [], c, _ => by simp [crcBits, bnum, crcSteps]
  | b :: l, c, h => by
    have hl := bnum_lt l
    rw [List.length_cons] at h
    have hp : 2 ^ l.length ≤ 2 ^ 31 := Nat.pow_le_pow_right (by decide) (by omega)
    rw [crcBits, crcBits_num l _ (by omega), List.length_cons, crcSteps]
    congr 1
    have e : BitVec.ofNat 32 (bnum (b :: l)) = BitVec.ofNat 32 b.toNat ^^^ BitVec.ofNat 32 (2 * bnum l) := by
      apply BitVec.eq_of_toNat_eq
      rw [BitVec.toNat_xor, BitVec.toNat_ofNat, BitVec.toNat_ofNat, BitVec.toNat_ofNat]
      have hb : b.toNat < 2 := by cases b <;> simp
      rw [show bnum (b :: l) = b.toNat + 2 * bnum l from rfl, Nat.mod_eq_of_lt (a := b.toNat + 2 * bnum l) (by omega), Nat.mod_eq_of_lt (a := b.toNat) (by omega), Nat.mod_eq_of_lt (a := 2 * bnum l) (by omega)]
      apply Nat.eq_of_testBit_eq
      intro i
      rw [Nat.testBit_xor]
      cases i with
      | zero => cases b <;> simp [Nat.testBit_zero] <;> omega
      | succ i =>
        rw [Nat.testBit_succ, Nat.testBit_succ, Nat.testBit_succ, show (b.toNat + 2 * bnum l) / 2 = bnum l from by omega, show b.toNat / 2 = 0 from by omega, show 2 * bnum l / 2 = bnum l from by omega]
        simp
    have s : crcStep (BitVec.ofNat 32 (2 * bnum l)) = BitVec.ofNat 32 (bnum l) := by
      unfold crcStep
      rw [if_neg (by rw [BitVec.toNat_ofNat]; omega), BitVec.xor_zero]
      apply BitVec.eq_of_toNat_eq
      rw [BitVec.toNat_ushiftRight, BitVec.toNat_ofNat, BitVec.toNat_ofNat, Nat.shiftRight_eq_div_pow]; omega
    rw [e, ← BitVec.xor_assoc, crcStep_xor (c ^^^ BitVec.ofNat 32 b.toNat), s]
theorem crcBits_false : ∀ (n : Nat) (l : List Bool) (c : BitVec 32), l.length = n → (∀ i : Nat, l[i]? ≠ some true) → crcBits l c = crcSteps n c
  | 0, l, c, hl, _ => by rw [List.eq_nil_of_length_eq_zero hl]; rfl
  | n + 1, [], c, hl, _ => by simp at hl
  | n + 1, b :: l, c, hl, h => by
    have hb : b = false := by have := h 0; cases b <;> simp_all
    subst hb
    rw [crcBits, crcBits_false n l _ (by simpa using hl) (fun i => by have := h (i + 1); simpa using this)]
    simp [crcSteps]
theorem bnum_ne : ∀ (l : List Bool) (i : Nat), l[i]? = some true → bnum l ≠ 0
  | [], i, h => by simp at h
  | b :: l, 0, h => by
    have : b = true := by simpa using h
    subst this; simp [bnum]
  | b :: l, i + 1, h => by
    have := bnum_ne l i (by simpa using h)
    unfold bnum; omega
/-- At most 32 bits in a row, not all of them 0: the sum is none. -/
theorem burst (l : List Bool) (p i : Nat) (h1 : ∀ j, j < p → l[j]? ≠ some true) (h2 : ∀ j, p + 32 ≤ j → l[j]? ≠ some true) (hi : l[i]? = some true) : crcBits l 0#32 ≠ 0#32 := by
  have e : l = l.take p ++ ((l.drop p).take 32 ++ (l.drop p).drop 32) := by rw [List.take_append_drop, List.take_append_drop]
  have a1 : crcBits (l.take p) 0#32 = 0#32 := by
    rw [crcBits_false _ (l.take p) _ rfl (fun j => by
      rw [List.getElem?_take]; split
      · exact h1 j (by assumption)
      · simp), crcSteps_zero]
  have hp : p ≤ i := by
    apply Nat.le_of_not_lt; intro h; exact h1 i h hi
  have hp2 : i < p + 32 := by
    apply Nat.lt_of_not_le; intro h; exact h2 i h hi
  have hd : ((l.drop p).take 32)[i - p]? = some true := by
    rw [List.getElem?_take, if_pos (by omega), List.getElem?_drop, show p + (i - p) = i from by omega, hi]
  rw [e, crcBits_append, crcBits_append, a1, crcBits_num ((l.drop p).take 32) _ (by rw [List.length_take]; omega), BitVec.zero_xor]
  rw [crcBits_false _ ((l.drop p).drop 32) _ rfl (fun j => by
      rw [List.getElem?_drop, List.getElem?_drop]; exact h2 _ (by omega))]
  refine crcSteps_ne _ _ (crcSteps_ne _ _ ?_)
  have nz := bnum_ne _ _ hd
  have lt := bnum_lt ((l.drop p).take 32)
  have : 2 ^ ((l.drop p).take 32).length ≤ 2 ^ 32 := Nat.pow_le_pow_right (by decide) (by rw [List.length_take]; omega)
  intro z
  have := congrArg BitVec.toNat z
  rw [BitVec.toNat_ofNat, Nat.mod_eq_of_lt (by omega)] at this
  exact nz this
theorem crcBits_xor : ∀ (a b : List Bool) (c d : BitVec 32), a.length = b.length → crcBits (List.zipWith xor a b) (c ^^^ d) = crcBits a c ^^^ crcBits b d
  | [], [], c, d, _ => rfl
  | [], _ :: _, _, _, h => by simp at h
  | _ :: _, [], _, _, h => by simp at h
  | x :: a, y :: b, c, d, h => by
    rw [List.zipWith_cons_cons, crcBits, crcBits, crcBits, ← crcBits_xor a b _ _ (by simpa using h), ← crcStep_xor]
    congr 2
    have : BitVec.ofNat 32 (x ^^ y).toNat = BitVec.ofNat 32 x.toNat ^^^ BitVec.ofNat 32 y.toNat := by cases x <;> cases y <;> rfl
    rw [this]; ac_rfl
/-- A byte's bits, the lowest first. -/
def bits8 (x : Int) : List Bool := (List.range 8).map fun i => x.toNat.testBit i
def bitsOf : List Int → List Bool
  | [] => []
  | x :: l => bits8 x ++ bitsOf l
theorem bits8_len (x : Int) : (bits8 x).length = 8 := by simp [bits8]
theorem bits8_num (x : Int) (h0 : 0 ≤ x) (h1 : x < 256) : bnum (bits8 x) = x.toNat := by
  have key : ∀ y : Nat, y < 256 → bnum ((List.range 8).map fun i => y.testBit i) = y := by decide +kernel
  exact key _ (by omega)
theorem bitsOf_len : ∀ l : List Int, (bitsOf l).length = 8 * l.length
  | [] => rfl
  | x :: l => by rw [bitsOf, List.length_append, bits8_len, bitsOf_len l, List.length_cons]; omega
theorem bitsOf_append : ∀ a b : List Int, bitsOf (a ++ b) = bitsOf a ++ bitsOf b
  | [], b => rfl
  | x :: a, b => by rw [List.cons_append, bitsOf, bitsOf, bitsOf_append a b, List.append_assoc]
theorem crcL_bits : ∀ (l : List Int) (c : BitVec 32), (∀ x ∈ l, 0 ≤ x ∧ x < 256) → crcL l c = crcBits (bitsOf l) c
  | [], c, _ => rfl
  | x :: l, c, h => by
    obtain ⟨h0, h1⟩ := h x (by simp)
    rw [crcL, bitsOf, crcBits_append, crcL_bits l _ (fun y hy => h y (by simp [hy])), crcBits_num (bits8 x) c (by rw [bits8_len]; omega), bits8_len, bits8_num x h0 h1]
    congr 4
    obtain ⟨n, rfl⟩ := Int.eq_ofNat_of_zero_le h0
    rw [BitVec.ofInt_natCast]; rfl
/-- A row of bytes with its sum behind it. -/
theorem residue (A : List Int) (hb : ∀ x ∈ A, 0 ≤ x ∧ x < 256) : crcBits (bitsOf (A ++ four (sumZ A))) (BitVec.allOnes 32) = crcSteps 32 (BitVec.allOnes 32) := by
  rw [bitsOf_append, crcBits_append, ← crcL_bits A _ hb]
  have hs := sumZ_bd A
  have hn : bnum (bitsOf (four (sumZ A))) = (sumZ A).toNat := by
    unfold four
    simp only [bitsOf, bnum_append, bits8_len]
    rw [bits8_num _ (by omega) (by omega), bits8_num _ (by omega) (by omega), bits8_num _ (by omega) (by omega), bits8_num _ (by omega) (by omega)]
    simp only [bnum]; omega
  have hl : (bitsOf (four (sumZ A))).length = 32 := by rw [bitsOf_len]; rfl
  rw [crcBits_num _ _ (by omega), hl, hn]
  have key (c : BitVec 32) : c ^^^ BitVec.ofNat 32 (((~~~ c).toNat : Nat) : Int).toNat = BitVec.allOnes 32 := by
    rw [Int.toNat_natCast, BitVec.ofNat_toNat, BitVec.setWidth_eq]
    refine BitVec.eq_of_getLsbD_eq fun i hi => ?_
    rw [BitVec.getLsbD_xor, BitVec.getLsbD_not, BitVec.getLsbD_allOnes]; simp only [hi, decide_true, Bool.true_and]; cases c.getLsbD i <;> rfl
  exact congrArg (crcSteps 32) (key (crcL A (BitVec.allOnes 32)))
/-- Bit p of a row of bytes. -/
def bitAt (l : List Int) (p : Nat) : Bool := (rd l ((p / 8 : Nat) : Int)).toNat.testBit (p % 8)
theorem bitsOf_get : ∀ (l : List Int) (p : Nat), p < 8 * l.length → (bitsOf l)[p]? = some (bitAt l p)
  | [], p, h => by simp at h
  | x :: l, p, h => by
    rw [bitsOf]
    by_cases h8 : p < 8
    · rw [List.getElem?_append_left (by rw [bits8_len]; omega)]
      simp only [bits8, List.getElem?_map, List.getElem?_range h8, Option.map_some]
      simp only [bitAt, show p / 8 = 0 from by omega, show p % 8 = p from by omega]; rfl
    · rw [List.getElem?_append_right (by rw [bits8_len]; omega), bits8_len, bitsOf_get l (p - 8) (by rw [List.length_cons] at h; omega)]
      simp only [bitAt, show p / 8 = (p - 8) / 8 + 1 from by omega, show (p - 8) % 8 = p % 8 from by omega]
      rfl
theorem bits8_inj (x y : Int) (x0 : 0 ≤ x) (x1 : x < 256) (y0 : 0 ≤ y) (y1 : y < 256) (h : bits8 x = bits8 y) : x = y := by
  have := bits8_num x x0 x1; rw [h, bits8_num y y0 y1] at this; omega
/-- Two codewords of one length: no burst lies between them. -/
theorem no_burst (A B : List Int) (ha : ∀ x ∈ A, 0 ≤ x ∧ x < 256) (hb : ∀ x ∈ B, 0 ≤ x ∧ x < 256) (hl : A.length = B.length) (X Y : List Int) (hX : X = A ++ four (sumZ A)) (hY : Y = B ++ four (sumZ B))
    (p : Nat) (h1 : ∀ j, j < 8 * X.length → j < p → bitAt X j = bitAt Y j) (h2 : ∀ j, j < 8 * X.length → p + 32 ≤ j → bitAt X j = bitAt Y j) : ∀ j, j < 8 * X.length → bitAt X j = bitAt Y j := by
  intro i hi
  apply Classical.byContradiction
  intro hne
  have hXY : X.length = Y.length := by rw [hX, hY, List.length_append, List.length_append, hl]; rfl
  have rx := residue A ha
  have ry := residue B hb
  rw [← hX] at rx
  rw [← hY] at ry
  have z := crcBits_xor (bitsOf X) (bitsOf Y) (BitVec.allOnes 32) (BitVec.allOnes 32) (by rw [bitsOf_len, bitsOf_len, hXY])
  rw [rx, ry, BitVec.xor_self, BitVec.xor_self] at z
  have get (j : Nat) (hj : j < 8 * X.length) : (List.zipWith xor (bitsOf X) (bitsOf Y))[j]? = some (xor (bitAt X j) (bitAt Y j)) := by
    rw [List.getElem?_zipWith, bitsOf_get X j hj, bitsOf_get Y j (by omega)]
  have out (j : Nat) (hj : ¬ j < 8 * X.length) : (List.zipWith xor (bitsOf X) (bitsOf Y))[j]? ≠ some true := by
    rw [List.getElem?_eq_none (by rw [List.length_zipWith, bitsOf_len, bitsOf_len]; omega)]; simp
  refine burst _ p i ?_ ?_ ?_ z
  · intro j hj
    by_cases c : j < 8 * X.length
    · rw [get j c, h1 j c hj]; simp
    · exact out j c
  · intro j hj
    by_cases c : j < 8 * X.length
    · rw [get j c, h2 j c hj]; simp
    · exact out j c
  · rw [get i hi]
    revert hne; cases bitAt X i <;> cases bitAt Y i <;> simp
theorem bitAt_take (l : List Int) (a b p : Nat) (h : p < 8 * (b - a)) : bitAt ((l.take b).drop a) p = bitAt l (8 * a + p) := by
  unfold bitAt
  rw [show (8 * a + p) / 8 = a + p / 8 from by omega, show (8 * a + p) % 8 = p % 8 from by omega]
  simp only [rd, Int.toNat_natCast, List.getD_eq_getElem?_getD]
  rw [List.getElem?_drop, List.getElem?_take, if_pos (by omega)]
theorem bits_eq (X Y : List Int) (hl : X.length = Y.length) (hX : ∀ x ∈ X, 0 ≤ x ∧ x < 256) (hY : ∀ x ∈ Y, 0 ≤ x ∧ x < 256) (h : ∀ j, j < 8 * X.length → bitAt X j = bitAt Y j) : X = Y := by
  apply List.ext_getElem hl
  intro i h1 h2
  have e (l : List Int) (hi : i < l.length) : rd l i = l[i] := by simp [rd, List.getElem?_eq_getElem hi]
  apply bits8_inj _ _ (hX _ (List.getElem_mem h1)).1 (hX _ (List.getElem_mem h1)).2 (hY _ (List.getElem_mem h2)).1 (hY _ (List.getElem_mem h2)).2
  unfold bits8
  refine List.map_congr_left fun q hq => ?_
  have hq : q < 8 := by simpa using hq
  have := h (8 * i + q) (by omega)
  unfold bitAt at this
  rw [show (8 * i + q) / 8 = i from by omega, show (8 * i + q) % 8 = q from by omega, e X h1, e Y h2] at this
  exact this
/-- A frame whose bits are others, at most 32 in a row: it is not read. -/
theorem burst_read (seq : Int) (b r g : List Int) (s0 : 0 < seq) (s1 : seq < 18446744073709551616) (hb : ∀ c ∈ b, 0 ≤ c ∧ c < 256) (hl : b.length ≤ 16384) (hg : ∀ c ∈ g, 0 ≤ c ∧ c < 256) (gl : g.length = b.length + 20)
    (at_ : Nat) (h1 : ∀ j, j < 8 * g.length → j < at_ → bitAt g j = bitAt (putF seq b) j) (h2 : ∀ j, j < 8 * g.length → at_ + 32 ≤ j → bitAt g j = bitAt (putF seq b) j) (hr : ∀ c ∈ r, 0 ≤ c ∧ c < 256) (he : (readF (g ++ r)).2.2.2 = 0) : g = putF seq b := by
  have rf := (readF_put seq b r s0 s1 hl _ rfl)
  have pl := putF_len seq b
  have hp := putF_bytes seq b hb
  generalize hf : putF seq b = f at *
  have hgr : ∀ c ∈ g ++ r, 0 ≤ c ∧ c < 256 := fun c hc => (List.mem_append.mp hc).elim (hg c) (hr c)
  have hfr : ∀ c ∈ f ++ r, 0 ≤ c ∧ c < 256 := fun c hc => (List.mem_append.mp hc).elim (hp c) (hr c)
  have lk : (g ++ r).length = g.length + r.length := List.length_append
  have lf' : (f ++ r).length = f.length + r.length := List.length_append
  have bitk (j : Nat) (h : j < 8 * g.length) : bitAt (g ++ r) j = bitAt g j := by
    unfold bitAt; simp only [rd, Int.toNat_natCast, List.getD_eq_getElem?_getD]; rw [List.getElem?_append_left (by omega)]
  have bitf (j : Nat) (h : j < 8 * g.length) : bitAt (f ++ r) j = bitAt f j := by
    unfold bitAt; simp only [rd, Int.toNat_natCast, List.getD_eq_getElem?_getD]; rw [List.getElem?_append_left (by omega)]
  -- what is read of the frame itself
  have rf2 := rf.2
  unfold readF at rf2
  rw [if_neg (by omega)] at rf2
  split at rf2
  rotate_left
  · simp at rf2
  rename_i f2
  split at rf2
  · simp at rf2
  split at rf2
  · simp at rf2
  split at rf2
  · simp at rf2
  rename_i f5
  split at rf2
  rotate_left
  · simp at rf2
  rename_i f6
  have fl : (lenF (f ++ r)).toNat = b.length := by
    have h := congrArg (fun x => x.2.2.1) rf2
    simp only at h
    have := lenF_bd (f ++ r) (by omega) hfr
    omega
  -- what is read of the other one
  unfold readF at he
  rw [if_neg (by omega)] at he
  split at he
  rotate_left
  · simp at he
  rename_i g2
  split at he
  · simp at he
  split at he
  · simp at he
  split at he
  · simp at he
  rename_i g5
  split at he
  rotate_left
  · simp at he
  rename_i g6
  -- the heads
  have t16 (k : List Int) (h : (k.take 16).drop 12 = four (sumZ (k.take 12))) : k.take 16 = k.take 12 ++ four (sumZ (k.take 12)) := by
    rw [← h, show k.take 12 = (k.take 16).take 12 from by rw [List.take_take]; rfl, List.take_append_drop]
  have head : (g ++ r).take 16 = (f ++ r).take 16 := by
    have l16 : ((g ++ r).take 16).length = 16 := by rw [List.length_take]; omega
    have l16' : ((f ++ r).take 16).length = 16 := by rw [List.length_take]; omega
    have tb (k : List Int) (j : Nat) (hj : j < 128) : bitAt (k.take 16) j = bitAt k j := by
      have := bitAt_take k 0 16 j (by omega); simpa using this
    refine bits_eq _ _ (by omega) (fun c hc => hgr c (List.mem_of_mem_take hc)) (fun c hc => hfr c (List.mem_of_mem_take hc)) ?_
    refine no_burst ((g ++ r).take 12) ((f ++ r).take 12) (fun c hc => hgr c (List.mem_of_mem_take hc)) (fun c hc => hfr c (List.mem_of_mem_take hc)) (by rw [List.length_take, List.length_take]; omega) _ _ (t16 _ g2) (t16 _ f2) at_ ?_ ?_
    · intro j hj hja
      rw [l16] at hj
      rw [tb _ j (by omega), tb _ j (by omega), bitk j (by omega), bitf j (by omega)]; exact h1 j (by omega) hja
    · intro j hj hja
      rw [l16] at hj
      rw [tb _ j (by omega), tb _ j (by omega), bitk j (by omega), bitf j (by omega)]; exact h2 j (by omega) hja
  have el : lenF (g ++ r) = lenF (f ++ r) := by
    unfold lenF
    rw [show (g ++ r).take 4 = ((g ++ r).take 16).take 4 from by rw [List.take_take]; rfl, head, List.take_take]; rfl
  rw [el, fl] at g5 g6
  rw [fl] at f5 f6
  have tx (k : List Int) (h : (k.take (16 + b.length + 4)).drop (16 + b.length) = four (sumZ ((k.take (16 + b.length)).drop 16))) : (k.take (16 + b.length + 4)).drop 16 = (k.take (16 + b.length)).drop 16 ++ four (sumZ ((k.take (16 + b.length)).drop 16)) := by
    rw [← h, show k.take (16 + b.length) = (k.take (16 + b.length + 4)).take (16 + b.length) from by rw [List.take_take]; congr 1; omega]
    generalize k.take (16 + b.length + 4) = q
    rw [show (q.take (16 + b.length)).drop 16 = (q.drop 16).take b.length from by rw [List.drop_take]; congr 1; omega, show q.drop (16 + b.length) = (q.drop 16).drop b.length from by rw [List.drop_drop], List.take_append_drop]
  have text : ((g ++ r).take (16 + b.length + 4)).drop 16 = ((f ++ r).take (16 + b.length + 4)).drop 16 := by
    have l1 : (((g ++ r).take (16 + b.length + 4)).drop 16).length = b.length + 4 := by rw [List.length_drop, List.length_take]; omega
    have l2 : (((f ++ r).take (16 + b.length + 4)).drop 16).length = b.length + 4 := by rw [List.length_drop, List.length_take]; omega
    have tb (k : List Int) (j : Nat) (hj : j < 8 * (b.length + 4)) : bitAt ((k.take (16 + b.length + 4)).drop 16) j = bitAt k (128 + j) := by
      have := bitAt_take k 16 (16 + b.length + 4) j (by omega); simpa using this
    refine bits_eq _ _ (by omega) (fun c hc => hgr c (List.mem_of_mem_take (List.mem_of_mem_drop hc))) (fun c hc => hfr c (List.mem_of_mem_take (List.mem_of_mem_drop hc))) ?_
    refine no_burst (((g ++ r).take (16 + b.length)).drop 16) (((f ++ r).take (16 + b.length)).drop 16) (fun c hc => hgr c (List.mem_of_mem_take (List.mem_of_mem_drop hc))) (fun c hc => hfr c (List.mem_of_mem_take (List.mem_of_mem_drop hc))) (by rw [List.length_drop, List.length_drop, List.length_take, List.length_take]; omega) _ _ (tx _ g6) (tx _ f6) (at_ - 128) ?_ ?_
    · intro j hj hja
      rw [l1] at hj
      rw [tb _ j hj, tb _ j hj, bitk _ (by omega), bitf _ (by omega)]; exact h1 _ (by omega) (by omega)
    · intro j hj hja
      rw [l1] at hj
      rw [tb _ j hj, tb _ j hj, bitk _ (by omega), bitf _ (by omega)]; exact h2 _ (by omega) (by omega)
  have whole (k : List Int) : k.take (16 + b.length + 4) = k.take 16 ++ (k.take (16 + b.length + 4)).drop 16 := by
    rw [show k.take 16 = (k.take (16 + b.length + 4)).take 16 from by rw [List.take_take]; congr 1; omega, List.take_append_drop]
  have wg := whole (g ++ r)
  have wf := whole (f ++ r)
  rw [head, text, ← wf] at wg
  rw [head_is g r _ (by omega), head_is f r _ (by omega)] at wg
  exact wg
theorem two_pos' (n : Nat) : (0 : Int) < 2 ^ n := Int.pow_pos (by decide)
theorem xor_u8 (x y : Int) (x0 : 0 ≤ x) (x1 : x < 256) (y0 : 0 ≤ y) (y1 : y < 256) : Go.bits .xor .u8 x y = ((x.toNat ^^^ y.toNat : Nat) : Int) ∧ x.toNat ^^^ y.toNat < 256 := by
  have h : x.toNat ^^^ y.toNat < 2 ^ 8 := Nat.xor_lt_two_pow (by omega) (by omega)
  refine ⟨?_, h⟩
  show IntKind.u8.wrap ((BitVec.ofInt 8 x ^^^ BitVec.ofInt 8 y).toNat : Int) = _
  rw [BitVec.toNat_xor, BitVec.toNat_ofInt, BitVec.toNat_ofInt, show (x % ((2 ^ 8 : Nat) : Int)).toNat = x.toNat from by omega, show (y % ((2 ^ 8 : Nat) : Int)).toNat = y.toNat from by omega]
  rw [show IntKind.u8.wrap ((x.toNat ^^^ y.toNat : Nat) : Int) = ((x.toNat ^^^ y.toNat : Nat) : Int) % 256 from by simp [IntKind.wrap, IntKind.bits, IntKind.signed]]
  omega
theorem shl_u8 (q : Nat) (h : q < 8) : shl .u8 1 (q : Int) = ((2 ^ q : Nat) : Int) ∧ 2 ^ q < 256 := by
  have key : ∀ q : Nat, q < 8 → shl .u8 1 (q : Int) = ((2 ^ q : Nat) : Int) ∧ 2 ^ q < 256 := by decide +kernel
  exact key q h
theorem flip_bit (f : List Int) (p j : Nat) (hp : p < 8 * f.length) (hj : j < 8 * f.length) (hb : ∀ c ∈ f, 0 ≤ c ∧ c < 256) :
    bitAt (f.set (p / 8) (Go.bits .xor .u8 (rd f ((p / 8 : Nat) : Int)) (shl .u8 1 ((p % 8 : Nat) : Int)))) j = if j = p then !(bitAt f p) else bitAt f j := by
  obtain ⟨e1, e2⟩ := shl_u8 (p % 8) (by omega)
  have hc := hb _ (rd_mem f (p / 8) (by omega))
  obtain ⟨e3, e4⟩ := xor_u8 (rd f ((p / 8 : Nat) : Int)) (shl .u8 1 ((p % 8 : Nat) : Int)) hc.1 hc.2 (by rw [e1]; exact Int.natCast_nonneg _) (by rw [e1]; exact Int.ofNat_lt.mpr e2)
  rw [e3]
  rw [e1, Int.toNat_natCast]
  unfold bitAt
  by_cases hq : j / 8 = p / 8
  · have : rd (f.set (p / 8) (((rd f ((p / 8 : Nat) : Int)).toNat ^^^ 2 ^ (p % 8) : Nat) : Int)) ((j / 8 : Nat) : Int) = (((rd f ((p / 8 : Nat) : Int)).toNat ^^^ 2 ^ (p % 8) : Nat) : Int) := by
      rw [hq]; simp only [rd, Int.toNat_natCast, List.getD_eq_getElem?_getD]; rw [List.getElem?_set_self (by omega)]; rfl
    rw [this, Int.toNat_natCast, Nat.testBit_xor, Nat.testBit_two_pow]
    by_cases hjp : j = p
    · subst hjp; simp
    · rw [if_neg hjp, hq, decide_eq_false (by omega)]; simp
  · have : rd (f.set (p / 8) (((rd f ((p / 8 : Nat) : Int)).toNat ^^^ 2 ^ (p % 8) : Nat) : Int)) ((j / 8 : Nat) : Int) = rd f ((j / 8 : Nat) : Int) := by
      simp only [rd, Int.toNat_natCast, List.getD_eq_getElem?_getD]; rw [List.getElem?_set_ne (by omega)]
    rw [this, if_neg (by intro h; exact hq (by rw [h]))]
/-- How far the turning of bits has come. -/
structure Turned (seq : Int) (b f : List Int) (at_ i : Nat) (t : Bool) : Prop where
  len : f.length = b.length + 20
  bytes : ∀ c ∈ f, 0 ≤ c ∧ c < 256
  out : ∀ j, j < 8 * f.length → j < at_ ∨ at_ + i ≤ j → bitAt f j = bitAt (putF seq b) j
  no : t = false → f = putF seq b
  yes : t = true → ∃ j, j < 8 * f.length ∧ bitAt f j ≠ bitAt (putF seq b) j
theorem burst_end (seq : Int) (b r f : List Int) (at_ i : Nat) (t : Bool) (n m : Int) (s0 : 0 < seq) (s1 : seq < 18446744073709551616) (hb : ∀ c ∈ b, 0 ≤ c ∧ c < 256) (hl : b.length ≤ 2000) (hr : ∀ c ∈ r, 0 ≤ c ∧ c < 256) (rl : r.length ≤ 100)
    (h : Turned seq b f at_ i t) (hi : i ≤ 32) (x14 : Int) : Ev (fun k => inquestlaw08_FrameBurst.j1 k r n m f t x14 false) true := by
  obtain ⟨len, bytes, out, no, yes⟩ := h
  have rv := frame_Read_ev (f ++ r) (fun c hc => (List.mem_append.mp hc).elim (bytes c) (hr c)) (by rw [List.length_append]; omega)
  refine Ev.step (f := fun k => (frame_Read.f k (f ++ r)).bind fun bt190 => (if ((bt190.2.2.2 == 0) == (!t)) = true then (if t = true then (if (bt190.2.1.length : Int) = 0 then ((inquestlaw08_lives.f k).bind fun t196 => (some t196)) else (some false)) else ((inquestlaw08_lives.f k).bind fun t197 => (some t197))) else (some false))) (fun k => ?_) ?_
  · simp only [inquestlaw08_FrameBurst.j1]
    rw [if_neg (by simp), if_pos (by omega)]
  refine Ev.bind rv ?_
  cases t with
  | false =>
    have e := no rfl
    have rp := (readF_put seq b r s0 s1 (by omega) _ rfl).2
    rw [e, rp]
    simp only [beq_self_eq_true, Bool.not_false, if_true]
    exact Ev.congr (fun k => if_neg (by simp)) (Ev.bind lives08 (Ev.now _))
  | true =>
    obtain ⟨j, hj, hne⟩ := yes rfl
    have ne : (readF (f ++ r)).2.2.2 ≠ 0 := by
      intro he
      have := burst_read seq b r f s0 s1 hb (by omega) bytes len at_ (fun j h1 h2 => out j h1 (.inl h2)) (fun j h1 h2 => out j h1 (.inr (by omega))) hr he
      rw [this] at hne; exact hne rfl
    have z := (readF_err (f ++ r)).resolve_left ne
    simp only [beq_eq_false_iff_ne.mpr ne, Bool.not_true, beq_self_eq_true, if_true, z.2.1, List.length_nil, show ((0 : Nat) : Int) = 0 from rfl]
    exact Ev.bind lives08 (Ev.now _)
theorem burst_l0 (d : Nat) : ∀ (seq : Int) (b r f : List Int) (at_ i : Nat) (t : Bool) (m : Int), 0 < seq → seq < 18446744073709551616 → (∀ c ∈ b, 0 ≤ c ∧ c < 256) → b.length ≤ 2000 → (∀ c ∈ r, 0 ≤ c ∧ c < 256) → r.length ≤ 100 →
    Turned seq b f at_ i t → 32 - i = d → i ≤ 32 → at_ < 8 * f.length → 0 ≤ m → m < 4294967296 → Ev (fun k => inquestlaw08_FrameBurst.l0 k r at_ m f t i) true := by
  induction d with
  | zero =>
    intro seq b r f at_ i t m s0 s1 hb hl hr rl h hd hi ha m0 m1
    refine Ev.step (fun k => ?_) (burst_end seq b r f at_ i t at_ m s0 s1 hb hl hr rl h (by omega) i)
    simp only [inquestlaw08_FrameBurst.l0]
    rw [if_neg (by omega)]
  | succ d ih =>
    intro seq b r f at_ i t m s0 s1 hb hl hr rl h hd hi ha m0 m1
    have len := h.len
    have out := h.out
    by_cases c : at_ + i < 8 * f.length
    · have hnext : Ev (fun k => inquestlaw08_FrameBurst.l0 k r at_ m (if m / 2 ^ i % 2 = 1 then f.set ((at_ + i) / 8) (Go.bits .xor .u8 (rd f (((at_ + i) / 8 : Nat) : Int)) (shl .u8 1 (((at_ + i) % 8 : Nat) : Int))) else f) (if m / 2 ^ i % 2 = 1 then true else t) ((i + 1 : Nat) : Int)) true := by
        by_cases cb : m / 2 ^ i % 2 = 1
        · rw [if_pos cb, if_pos cb]
          have fb := fun j hj => flip_bit f (at_ + i) j c hj h.bytes
          obtain ⟨e1, e2⟩ := shl_u8 ((at_ + i) % 8) (by omega)
          have hcc := h.bytes _ (rd_mem f ((at_ + i) / 8) (by omega))
          obtain ⟨e3, e4⟩ := xor_u8 (rd f (((at_ + i) / 8 : Nat) : Int)) (shl .u8 1 (((at_ + i) % 8 : Nat) : Int)) hcc.1 hcc.2 (by rw [e1]; exact Int.natCast_nonneg _) (by rw [e1]; exact Int.ofNat_lt.mpr e2)
          refine ih seq b r _ at_ (i + 1) true m s0 s1 hb hl hr rl ⟨by simpa using len, ?_, ?_, fun h => (by simp at h), fun _ => ⟨at_ + i, by simpa using c, ?_⟩⟩ (by omega) (by omega) (by simpa using ha) m0 m1
          · intro x hx
            rcases List.mem_or_eq_of_mem_set hx with hx | hx
            · exact h.bytes x hx
            · rw [hx, e3]; omega
          · intro j hj ho
            rw [List.length_set] at hj
            rw [fb j hj, if_neg (by omega)]; exact out j hj (by omega)
          · rw [fb _ c, if_pos rfl, ← out (at_ + i) c (by omega)]; simp
        · rw [if_neg cb, if_neg cb]
          exact ih seq b r f at_ (i + 1) t m s0 s1 hb hl hr rl ⟨len, h.bytes, fun j hj ho => out j hj (by omega), h.no, h.yes⟩ (by omega) (by omega) ha m0 m1
      refine Ev.step (f := fun k => inquestlaw08_FrameBurst.j1 k r at_ m f t i true) (fun k => ?_) ?_
      · simp only [inquestlaw08_FrameBurst.l0]
        rw [if_pos (by omega), w64 (by omega) (by omega), w64 (by omega) (by omega), decide_eq_true (by omega)]
      · refine Ev.step (fun k => ?_) hnext
        have eb : Go.bits .and .u32 (shr .u32 m (IntKind.u64.wrap (i : Int))) 1 = m / 2 ^ i % 2 := by
          unfold shr
          rw [wu64, Int.emod_eq_of_lt (by omega) (by omega), Int.toNat_natCast, show min i IntKind.u32.bits = i from Nat.min_eq_left (by simp only [IntKind.bits]; omega)]
          have q := two_pos' i
          have d0 : 0 ≤ m / 2 ^ i := Int.ediv_nonneg m0 (by omega)
          have d1 : m / 2 ^ i ≤ m := Int.ediv_le_self _ m0
          rw [ba_u32, BitVec.toNat_and, show (BitVec.ofInt 32 1).toNat = 1 from by decide, Nat.and_one_is_mod, BitVec.toNat_ofInt, wu32]; omega
        simp only [inquestlaw08_FrameBurst.j1]
        rw [if_pos trivial, eb, wu64 (i : Int), if_pos (by omega), w64 (i := (at_ : Int) + i) (by omega) (by omega), Int.tdiv_eq_ediv_of_nonneg (by omega), Int.tmod_eq_emod_of_nonneg (by omega), w64 (i := ((at_ : Int) + i) / 8) (by omega) (by omega), w64 (i := (i : Int) + 1) (by omega) (by omega), wu64 (((at_ : Int) + i) % 8), Int.emod_eq_of_lt (a := ((at_ : Int) + i) % 8) (by omega) (by omega)]
        have e8 : ((at_ : Int) + i) / 8 = (((at_ + i) / 8 : Nat) : Int) := by omega
        have e9 : ((at_ : Int) + i) % 8 = (((at_ + i) % 8 : Nat) : Int) := by omega
        rw [e8, e9, Int.toNat_natCast]
        by_cases cb : m / 2 ^ i % 2 = 1
        · rw [if_pos cb, if_pos cb, if_pos cb, if_pos (by omega), if_pos (by omega), if_pos (by omega)]; rfl
        · rw [if_neg cb, if_neg cb, if_neg cb]; rfl
    · have h32 : Turned seq b f at_ i t := h
      refine Ev.step (fun k => ?_) (burst_end seq b r f at_ i t at_ m s0 s1 hb hl hr rl h (by omega) i)
      simp only [inquestlaw08_FrameBurst.l0]
      rw [if_pos (by omega), w64 (by omega) (by omega), w64 (by omega) (by omega), decide_eq_false (by omega)]
theorem FrameBurst : inquestlaw08_FrameBurst.Pure := by
  intro seq b r n m hs _ hl hb _ hl2 hr hn hm
  obtain ⟨s0, s1⟩ := wf_u64 hs
  obtain ⟨m0, m1⟩ := wf_u32 hm
  have hb := wf_u8s hb
  have hr := wf_u8s hr
  refine Ev.rounds ?_
  have hc : inquestref01_Cut.f b 2000 = some (b.take 2000) := cut01 b 2000
  have hc2 : inquestref01_Cut.f r 100 = some (r.take 100) := cut01 r 100
  have hb' : ∀ c ∈ b.take 2000, 0 ≤ c ∧ c < 256 := fun c hc => hb c (List.mem_of_mem_take hc)
  have hr' : ∀ c ∈ r.take 100, 0 ≤ c ∧ c < 256 := fun c hc => hr c (List.mem_of_mem_take hc)
  have l20 : (b.take 2000).length ≤ 2000 := by rw [List.length_take]; omega
  have l10 : (r.take 100).length ≤ 100 := by rw [List.length_take]; omega
  unfold inquestlaw08_FrameBurst.f
  rw [hc, hc2]
  simp only [Option.bind_some]
  generalize b.take 2000 = l at hb' l20
  generalize r.take 100 = q at hr' l10
  refine Ev.bind (frame_Put_ev seq l s0 s1 hb' (by omega)) ?_
  unfold putA
  by_cases c : seq = 0
  · rw [if_pos c]
    refine Ev.congr (fun k => ?_) (Ev.bind lives08 (Ev.now true))
    simp only
    rw [if_neg (by omega), if_pos c]
  · rw [if_neg c, if_neg (by omega)]
    simp only [if_true]
    have pl := putF_len seq l
    obtain ⟨a, ha, a0, a1⟩ := least01 n 0 (8 * (l.length : Int) + 159) (by omega)
    obtain ⟨a, rfl⟩ := Int.eq_ofNat_of_zero_le a0
    rw [pl, w64 (i := 8 * ((l.length + 20 : Nat) : Int)) (by omega) (by omega), w64 (by omega) (by omega), show 8 * ((l.length + 20 : Nat) : Int) - 1 = 8 * (l.length : Int) + 159 from by omega, ha]
    simp only [Option.bind_some]
    exact burst_l0 32 seq l q (putF seq l) a 0 false m (by omega) s1 hb' l20 hr' l10 ⟨pl, putF_bytes seq l hb', fun _ _ _ => rfl, fun _ => rfl, fun h => by simp at h⟩ rfl (by omega) (by omega) m0 m1

end Go.Proofs.Ytcbkkgodlnofmaa.Pure
