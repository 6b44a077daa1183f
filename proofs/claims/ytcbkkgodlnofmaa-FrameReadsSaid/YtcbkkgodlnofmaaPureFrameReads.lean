/- The law FrameReads answers true at every input: which frame any bytes begin with, or why there is none. No condition. The printed texts beside it were written by wip/bin/pp.sh of this session. -/
import Derived.Test.YtcbkkgodlnofmaaPFrameReadsx4
namespace Go.Proofs.Ytcbkkgodlnofmaa.Pure
open Go.RowKit Go.Proofs.Ytcbkkgodlnofmaa.PFrameReads Go.Proofs.YtcbkkgodlnofmaaW.PrintWords Go.Proofs.YtcbkkgodlnofmaaW.PrintLast Go.Proofs.YtcbkkgodlnofmaaW.PrintMore
set_option linter.unusedVariables false
set_option linter.unusedSimpArgs false
theorem w64 {i : Int} (h : -9223372036854775808 ≤ i) (h' : i ≤ 9223372036854775807) : wrap64 i = i := by unfold wrap64; omega
theorem wf_u64 {a : Int} (h : (Lit.int .u64 a).wf = true) : 0 ≤ a ∧ a < 18446744073709551616 := by
  simp [Lit.wf, IntKind.min, IntKind.max, IntKind.signed, IntKind.bits] at h; omega
theorem wf_i64 {a : Int} (h : (Lit.int .i64 a).wf = true) : -9223372036854775808 ≤ a ∧ a ≤ 9223372036854775807 := by
  simp [Lit.wf, IntKind.min, IntKind.max, IntKind.signed, IntKind.bits] at h; omega
theorem wf_u32 {a : Int} (h : (Lit.int .u32 a).wf = true) : 0 ≤ a ∧ a < 4294967296 := by
  simp [Lit.wf, IntKind.min, IntKind.max, IntKind.signed, IntKind.bits] at h; omega
theorem wu64 (n : Int) : IntKind.u64.wrap n = n % 18446744073709551616 := by simp [IntKind.wrap, IntKind.bits, IntKind.signed]
theorem wu32 (n : Int) : IntKind.u32.wrap n = n % 4294967296 := by simp [IntKind.wrap, IntKind.bits, IntKind.signed]
theorem wi64 (n : Int) : IntKind.i64.wrap n = wrap64 n := by
  simp [IntKind.wrap, IntKind.bits, IntKind.signed, wrap64]; split <;> omega
theorem bx_u64 (x y : Int) : Go.bits .xor .u64 x y = IntKind.u64.wrap ((BitVec.ofInt 64 x ^^^ BitVec.ofInt 64 y).toNat : Int) := rfl
theorem bx_i64 (x y : Int) : Go.bits .xor .i64 x y = IntKind.i64.wrap ((BitVec.ofInt 64 x ^^^ BitVec.ofInt 64 y).toNat : Int) := rfl
theorem ba_u64 (x y : Int) : Go.bits .and .u64 x y = IntKind.u64.wrap ((BitVec.ofInt 64 x &&& BitVec.ofInt 64 y).toNat : Int) := rfl
theorem bo_u64 (x y : Int) : Go.bits .or .u64 x y = IntKind.u64.wrap ((BitVec.ofInt 64 x ||| BitVec.ofInt 64 y).toNat : Int) := rfl
theorem bx_u32 (x y : Int) : Go.bits .xor .u32 x y = IntKind.u32.wrap ((BitVec.ofInt 32 x ^^^ BitVec.ofInt 32 y).toNat : Int) := rfl
theorem ba_u32 (x y : Int) : Go.bits .and .u32 x y = IntKind.u32.wrap ((BitVec.ofInt 32 x &&& BitVec.ofInt 32 y).toNat : Int) := rfl
theorem bo_u32 (x y : Int) : Go.bits .or .u32 x y = IntKind.u32.wrap ((BitVec.ofInt 32 x ||| BitVec.ofInt 32 y).toNat : Int) := rfl
theorem bo_u8 (x y : Int) : Go.bits .or .u8 x y = IntKind.u8.wrap ((BitVec.ofInt 8 x ||| BitVec.ofInt 8 y).toNat : Int) := rfl
theorem ba_u8 (x y : Int) : Go.bits .and .u8 x y = IntKind.u8.wrap ((BitVec.ofInt 8 x &&& BitVec.ofInt 8 y).toNat : Int) := rfl
theorem same01_l0 (d : Nat) : ∀ (a b : List Int) (i : Nat), a.length = b.length → a.length ≤ 9223372036854775806 → a.length - i = d → i ≤ a.length →
    Ev (fun k => inquestref01_Same.l0 k a b i) (decide (a.drop i = b.drop i)) := by
  induction d with
  | zero =>
    intro a b i h hl hd hi
    refine ⟨1, fun k hk => ?_⟩
    obtain ⟨k, rfl⟩ : ∃ j, k = j + 1 := ⟨k - 1, by omega⟩
    simp only [inquestref01_Same.l0]; rw [if_neg (by omega), List.drop_of_length_le (by omega), List.drop_of_length_le (by omega)]; simp
  | succ d ih =>
    intro a b i h hl hd hi
    have e : (a.drop i = b.drop i) ↔ (rd a i = rd b i ∧ a.drop (i + 1) = b.drop (i + 1)) := by
      rw [List.drop_eq_getElem_cons (show i < a.length by omega), List.drop_eq_getElem_cons (show i < b.length by omega), List.cons.injEq]
      simp [rd, List.getElem?_eq_getElem (show i < a.length by omega), List.getElem?_eq_getElem (show i < b.length by omega)]
    by_cases c : rd a i = rd b i
    · have h' := ih a b (i + 1) h hl (by omega) (by omega)
      rw [show decide (a.drop i = b.drop i) = decide (a.drop (i + 1) = b.drop (i + 1)) from by simp [e, c]]
      refine Ev.step (fun k => ?_) h'
      simp only [inquestref01_Same.l0]
      rw [if_pos (by omega), if_pos (by omega), if_pos (by omega), if_pos c, w64 (by omega) (by omega)]; rfl
    · refine ⟨1, fun k hk => ?_⟩
      obtain ⟨k, rfl⟩ : ∃ j, k = j + 1 := ⟨k - 1, by omega⟩
      simp only [inquestref01_Same.l0]
      rw [if_pos (by omega), if_pos (by omega), if_pos (by omega), if_neg c]; simp [e, c]
/-- What Same answers: whether the lists are the same. -/
theorem same01 (a b : List Int) (hl : a.length ≤ 9223372036854775806) : Ev (fun k => inquestref01_Same.f k a b) (decide (a = b)) := by
  by_cases h : a.length = b.length
  · have h' := same01_l0 a.length a b 0 h hl (by omega) (by omega)
    simp only [List.drop_zero] at h'
    refine Ev.congr (fun k => ?_) h'
    unfold inquestref01_Same.f
    rw [if_pos (by omega)]; rfl
  · have n : a ≠ b := fun e => h (by rw [e])
    rw [decide_eq_false n]
    refine Ev.congr (fun k => ?_) (Ev.now false)
    unfold inquestref01_Same.f
    rw [if_neg (by omega)]
theorem same01_t (a b : List Int) (hl : a.length ≤ 9223372036854775806) (h : a = b) : Ev (fun k => inquestref01_Same.f k a b) true := by
  have := same01 a b hl; rwa [decide_eq_true h] at this
theorem rd_drop (l : List Int) (i : Nat) (h : i < l.length) : l.drop i = rd l i :: l.drop (i + 1) := by
  rw [List.drop_eq_getElem_cons h]; congr 1; simp [rd, List.getElem?_eq_getElem h]
theorem rd_mem (l : List Int) (i : Nat) (h : i < l.length) : rd l i ∈ l := by
  simp [rd, List.getElem?_eq_getElem h]
theorem cut01 (l : List Int) (n : Nat) : inquestref01_Cut.f l n = some (l.take n) := by
  unfold inquestref01_Cut.f
  by_cases c : l.length ≤ n
  · rw [if_neg (by omega), List.take_of_length_le c]
  · rw [if_pos (by omega), if_pos (by omega), if_pos (by omega), Int.toNat_natCast]
theorem copy01 (l : List Int) (h : l.length < 140737488355328) : inquestref01_Copy.f l = some l := by
  unfold inquestref01_Copy.f
  rw [if_pos (by simpa using h)]; rfl
theorem wf_u8 {x : Int} (h : (Lit.int .u8 x).wf = true) : 0 ≤ x ∧ x < 256 := by
  simp [Lit.wf, IntKind.min, IntKind.max, IntKind.signed, IntKind.bits] at h; omega
theorem wf_u8s {l : List Int} (h : ∀ x ∈ l, (Lit.int .u8 x).wf = true) : ∀ x ∈ l, 0 ≤ x ∧ x < 256 := fun x hx => wf_u8 (h x hx)
/-- The bytes of a number, the highest first. -/
def putL (x : Int) : Nat → List Int
  | 0 => []
  | n + 1 => putL (x / 256) n ++ [x % 256]
theorem putL_length (x : Int) (n : Nat) : (putL x n).length = n := by
  induction n generalizing x with
  | zero => rfl
  | succ n ih => simp [putL, ih]
/-- The number that bytes are, the highest first, behind a number. -/
def getL (x : Int) : List Int → Int
  | [] => x
  | c :: l => getL (x * 256 + c) l
theorem getL_bd : ∀ (l : List Int) (x : Int), 0 ≤ x → (∀ c ∈ l, 0 ≤ c ∧ c < 256) → 0 ≤ getL x l ∧ getL x l < (x + 1) * 256 ^ l.length
  | [], x, h, _ => by simp [getL]; omega
  | c :: l, x, h, hb => by
    have hc := hb c (by simp)
    obtain ⟨i, j⟩ := getL_bd l (x * 256 + c) (by omega) (fun d hd => hb d (by simp [hd]))
    refine ⟨i, Int.lt_of_lt_of_le j ?_⟩
    rw [List.length_cons, Int.pow_succ, show (256 : Int) ^ l.length * 256 = 256 * 256 ^ l.length from Int.mul_comm _ _, ← Int.mul_assoc]
    exact Int.mul_le_mul_of_nonneg_right (by omega) (Int.le_of_lt (Int.pow_pos (by decide)))
theorem pow256_le (n : Nat) (h : n ≤ 8) : (256 : Int) ^ n ≤ 18446744073709551616 := by
  have h2 : (256 : Int) ^ n * 256 ^ (8 - n) = 18446744073709551616 := by rw [← Int.pow_add, show n + (8 - n) = 8 from by omega]; decide
  have h3 : (0 : Int) < 256 ^ (8 - n) := Int.pow_pos (by decide)
  have h4 : (0 : Int) < 256 ^ n := Int.pow_pos (by decide)
  calc (256 : Int) ^ n = 256 ^ n * 1 := by omega
    _ ≤ 256 ^ n * 256 ^ (8 - n) := Int.mul_le_mul_of_nonneg_left (by omega) (by omega)
    _ = _ := h2
theorem or_byte (x c : Int) (h0 : 0 ≤ x) (h1 : x * 256 < 18446744073709551616) (c0 : 0 ≤ c) (c1 : c < 256) : Go.bits .or .u64 (x * 256) c = x * 256 + c := by
  obtain ⟨x, rfl⟩ := Int.eq_ofNat_of_zero_le h0
  obtain ⟨c, rfl⟩ := Int.eq_ofNat_of_zero_le c0
  have e : ((x : Int) * 256) = ((x * 256 : Nat) : Int) := by omega
  rw [e, bo_u64, BitVec.toNat_or, BitVec.toNat_ofInt, BitVec.toNat_ofInt, wu64,
    show (((x * 256 : Nat) : Int) % ((2 ^ 64 : Nat) : Int)).toNat = 2 ^ 8 * x from by omega, show ((c : Int) % ((2 ^ 64 : Nat) : Int)).toNat = c from by omega, ← Nat.two_pow_add_eq_or_of_lt (by omega)]
  omega
theorem word_Get_l0 (d : Nat) : ∀ (l : List Int) (x : Int) (i : Nat), (∀ c ∈ l, 0 ≤ c ∧ c < 256) → l.length - i = d → i ≤ l.length → l.length ≤ 8 → 0 ≤ x → x < 256 ^ i →
    Ev (fun k => word_Get.l0 k x l (l.length : Int) i) (getL x (l.drop i), true) := by
  induction d with
  | zero =>
    intro l x i hb hd hi hl h0 hx
    refine ⟨1, fun k hk => ?_⟩
    obtain ⟨k, rfl⟩ : ∃ j, k = j + 1 := ⟨k - 1, by omega⟩
    simp only [word_Get.l0]; rw [if_neg (by omega), List.drop_of_length_le (by omega)]; rfl
  | succ d ih =>
    intro l x i hb hd hi hl h0 hx
    have hc := hb _ (rd_mem l i (by omega))
    have e : (256 : Int) ^ (i + 1) = 256 ^ i * 256 := Int.pow_succ ..
    have p := pow256_le (i + 1) (by omega)
    have g := ih l (x * 256 + rd l i) (i + 1) hb (by omega) (by omega) hl (by omega) (by omega)
    rw [rd_drop l i (by omega)]
    refine Ev.step (fun k => ?_) g
    simp only [word_Get.l0]
    rw [if_pos (by omega), if_pos (by omega), if_pos (by omega), w64 (by omega) (by omega), wu64 (x * 256), wu64 (rd l i), Int.emod_eq_of_lt (a := x * 256) (by omega) (by omega), Int.emod_eq_of_lt (a := rd l i) (by omega) (by omega), or_byte x _ h0 (by omega) hc.1 hc.2]
    rfl
/-- What Get answers. -/
def getA (l : List Int) : Int × Bool := if l.length < 1 ∨ 8 < l.length then (0, false) else (getL 0 l, true)
theorem word_Get_ev (l : List Int) (hb : ∀ c ∈ l, 0 ≤ c ∧ c < 256) : Ev (fun k => word_Get.f k l) (getA l) := by
  unfold getA
  have no : ∀ b : Bool, b = true → Ev (fun k => word_Get.j0 k l b) (0, false) := fun b hb => Ev.step (f := fun _ => some (0, false)) (fun k => by subst hb; simp [word_Get.j0]) (Ev.now _)
  by_cases h1 : l.length < 1
  · rw [if_pos (by omega)]
    exact Ev.congr (fun k => by unfold word_Get.f; rw [if_pos (by omega)]) (no true rfl)
  · by_cases h8 : 8 < l.length
    · rw [if_pos (by omega)]
      exact Ev.congr (fun k => by unfold word_Get.f; rw [if_neg (by omega)]) (no _ (decide_eq_true (by omega)))
    · rw [if_neg (by omega)]
      refine Ev.step (fun k => ?_) (word_Get_l0 l.length l 0 0 hb (by omega) (by omega) (by omega) (by omega) (by decide))
      unfold word_Get.f
      rw [if_neg (by omega), show decide ((l.length : Int) > 8) = false from decide_eq_false (by omega)]
      simp only [word_Get.j0]; rw [if_neg (by simp)]; rfl
theorem r01_Get_l0 (d : Nat) : ∀ (l : List Int) (x : Int) (i : Nat), (∀ c ∈ l, 0 ≤ c ∧ c < 256) → l.length - i = d → i ≤ l.length → l.length ≤ 8 → 0 ≤ x → x < 256 ^ i →
    Ev (fun k => inquestref01_Get.l0 k l x i) (getL x (l.drop i), true) := by
  induction d with
  | zero =>
    intro l x i hb hd hi hl h0 hx
    refine ⟨1, fun k hk => ?_⟩
    obtain ⟨k, rfl⟩ : ∃ j, k = j + 1 := ⟨k - 1, by omega⟩
    simp only [inquestref01_Get.l0]; rw [if_neg (by omega), List.drop_of_length_le (by omega)]; rfl
  | succ d ih =>
    intro l x i hb hd hi hl h0 hx
    have hc := hb _ (rd_mem l i (by omega))
    have e : (256 : Int) ^ (i + 1) = 256 ^ i * 256 := Int.pow_succ ..
    have p := pow256_le (i + 1) (by omega)
    have g := ih l (x * 256 + rd l i) (i + 1) hb (by omega) (by omega) hl (by omega) (by omega)
    rw [rd_drop l i (by omega)]
    refine Ev.step (fun k => ?_) g
    simp only [inquestref01_Get.l0]
    rw [if_pos (by omega), if_pos (by omega), w64 (by omega) (by omega), wu64, wu64 (256 * x), wu64 (rd l i), Int.mul_comm 256 x, Int.emod_eq_of_lt (a := x * 256) (by omega) (by omega), Int.emod_eq_of_lt (a := rd l i) (by omega) (by omega), Int.emod_eq_of_lt (by omega) (by omega)]
    rfl
theorem r01_Get_ev (l : List Int) (hb : ∀ c ∈ l, 0 ≤ c ∧ c < 256) : Ev (fun k => inquestref01_Get.f k l) (getA l) := by
  unfold getA
  have no : ∀ b : Bool, b = true → Ev (fun k => inquestref01_Get.j0 k l b) (0, false) := fun b hb => Ev.step (f := fun _ => some (0, false)) (fun k => by subst hb; simp [inquestref01_Get.j0]) (Ev.now _)
  by_cases h1 : l.length < 1
  · rw [if_pos (by omega)]
    exact Ev.congr (fun k => by unfold inquestref01_Get.f; rw [if_pos (by omega)]) (no true rfl)
  · by_cases h8 : 8 < l.length
    · rw [if_pos (by omega)]
      exact Ev.congr (fun k => by unfold inquestref01_Get.f; rw [if_neg (by omega)]) (no _ (decide_eq_true (by omega)))
    · rw [if_neg (by omega)]
      refine Ev.step (fun k => ?_) (r01_Get_l0 l.length l 0 0 hb (by omega) (by omega) (by omega) (by omega) (by decide))
      unfold inquestref01_Get.f
      rw [if_neg (by omega), show decide ((l.length : Int) > 8) = false from decide_eq_false (by omega)]
      simp only [inquestref01_Get.j0]; rw [if_neg (by simp)]; rfl
theorem getL_snoc : ∀ (l : List Int) (x c : Int), getL x (l ++ [c]) = getL x l * 256 + c
  | [], x, c => rfl
  | a :: l, x, c => getL_snoc l _ c
theorem getL_putL (n : Nat) : ∀ x : Int, 0 ≤ x → getL 0 (putL x n) = x % 256 ^ n := by
  induction n with
  | zero => intro x _; simp [putL, getL, Int.emod_one]
  | succ n ih =>
    intro x h
    rw [putL, getL_snoc, ih _ (by omega), Int.pow_succ]
    have q : (0 : Int) < 256 ^ n := Int.pow_pos (by decide)
    have h1 := Int.emod_add_mul_ediv x (256 ^ n * 256)
    have h2 := Int.emod_add_mul_ediv (x / 256) (256 ^ n)
    have h3 := Int.emod_add_mul_ediv x 256
    have h4 : x / (256 ^ n * 256) = x / 256 / 256 ^ n := by rw [Int.mul_comm, ← Int.ediv_ediv_of_nonneg (by decide)]
    rw [h4] at h1
    have h5 : 256 ^ n * 256 * (x / 256 / 256 ^ n) = 256 * (256 ^ n * (x / 256 / 256 ^ n)) := by
      rw [Int.mul_comm (256 ^ n) 256, Int.mul_assoc]
    omega
theorem putL_bytes (n : Nat) : ∀ x : Int, ∀ c ∈ putL x n, 0 ≤ c ∧ c < 256 := by
  induction n with
  | zero => intro x c h; simp [putL] at h
  | succ n ih =>
    intro x c h
    rw [putL, List.mem_append] at h
    rcases h with h | h
    · exact ih _ c h
    · have : c = x % 256 := by simpa using h
      omega
theorem putL_getL_n (n : Nat) : ∀ (l : List Int), l.length = n → (∀ c ∈ l, 0 ≤ c ∧ c < 256) → putL (getL 0 l) n = l := by
  induction n with
  | zero => intro l h _; rw [List.eq_nil_of_length_eq_zero h]; rfl
  | succ n ih =>
    intro l h hb
    rcases List.eq_nil_or_concat l with rfl | ⟨L, c, rfl⟩
    · simp at h
    · have hL : L.length = n := by simpa using h
      have hc := hb c (by simp)
      rw [List.concat_eq_append] at hb ⊢
      rw [getL_snoc, putL, show (getL 0 L * 256 + c) / 256 = getL 0 L from by omega, ih L hL (fun x hx => hb x (by simp [hx])), show (getL 0 L * 256 + c) % 256 = c from by omega]
theorem putL_getL (l : List Int) (h : ∀ c ∈ l, 0 ≤ c ∧ c < 256) : putL (getL 0 l) l.length = l := putL_getL_n _ l rfl h
theorem u32_toNat (c : BitVec 32) : IntKind.u32.wrap (c.toNat : Int) = (c.toNat : Int) := by have := c.isLt; rw [wu32]; omega
theorem ofI (c : BitVec 32) : BitVec.ofInt 32 (c.toNat : Int) = c := by rw [BitVec.ofInt_natCast, BitVec.ofNat_toNat, BitVec.setWidth_eq]
theorem bx32 (x y : Int) : Go.bits .xor .u32 x y = ((BitVec.ofInt 32 x ^^^ BitVec.ofInt 32 y).toNat : Int) := by rw [bx_u32, u32_toNat]
theorem ba32 (x y : Int) : Go.bits .and .u32 x y = ((BitVec.ofInt 32 x &&& BitVec.ofInt 32 y).toNat : Int) := by rw [ba_u32, u32_toNat]
/-- One bit of the sum. -/
def crcStep (c : BitVec 32) : BitVec 32 := (c >>> 1) ^^^ (if c.toNat % 2 = 1 then 0xedb88320#32 else 0#32)
/-- So many bits. -/
def crcSteps : Nat → BitVec 32 → BitVec 32
  | 0, c => c
  | n + 1, c => crcSteps n (crcStep c)
/-- A row of bytes. -/
def crcL : List Int → BitVec 32 → BitVec 32
  | [], c => c
  | x :: l, c => crcL l (crcSteps 8 (c ^^^ BitVec.ofInt 32 x))
def sumZ (l : List Int) : Int := ((~~~ (crcL l (BitVec.allOnes 32))).toNat : Int)
theorem sumZ_bd (l : List Int) : 0 ≤ sumZ l ∧ sumZ l < 4294967296 := by unfold sumZ; have := (~~~ (crcL l (BitVec.allOnes 32))).isLt; omega
theorem ofI_half (c : BitVec 32) : BitVec.ofInt 32 ((c.toNat : Int) / 2) = c >>> 1 := by
  apply BitVec.eq_of_toNat_eq
  rw [BitVec.toNat_ofInt, BitVec.toNat_ushiftRight, Nat.shiftRight_eq_div_pow]
  have := c.isLt; omega
theorem crcStep_go (c : BitVec 32) : Go.bits .xor .u32 ((c.toNat : Int) / 2) (Go.bits .and .u32 3988292384 ((-(Go.bits .and .u32 (c.toNat : Int) 1)) % 4294967296)) = ((crcStep c).toNat : Int) := by
  have h1 : Go.bits .and .u32 (c.toNat : Int) 1 = (c.toNat : Int) % 2 := by
    rw [ba32, BitVec.toNat_and, show (BitVec.ofInt 32 1).toNat = 1 from by decide, Nat.and_one_is_mod, ofI]; omega
  rw [h1, bx32, ofI_half]
  unfold crcStep
  by_cases h : c.toNat % 2 = 1
  · rw [if_pos h, show ((c.toNat : Int) % 2) = 1 from by omega, show Go.bits .and .u32 3988292384 (-1 % 4294967296) = 3988292384 from by decide +kernel]; rfl
  · rw [if_neg h, show ((c.toNat : Int) % 2) = 0 from by omega, show Go.bits .and .u32 3988292384 (-0 % 4294967296) = 0 from by decide +kernel]; rfl
theorem frame_Sum_l1 (d : Nat) : ∀ (c : BitVec 32) (l : List Int) (n i : Int) (j : Nat) (r : Int), 8 - j = d → j ≤ 8 →
    Ev (fun k => frame_Sum.l0 k ((crcSteps d c).toNat : Int) l n (wrap64 (i + 1))) r → Ev (fun k => frame_Sum.l1 k (c.toNat : Int) l n i j) r := by
  induction d with
  | zero =>
    intro c l n i j r hd hj h
    refine Ev.step (fun k => ?_) h
    simp only [frame_Sum.l1]; rw [if_neg (by omega)]; rfl
  | succ d ih =>
    intro c l n i j r hd hj h
    refine Ev.step (fun k => ?_) (ih (crcStep c) l n i (j + 1) r (by omega) (by omega) h)
    simp only [frame_Sum.l1]; rw [if_pos (by omega), crcStep_go, w64 (by omega) (by omega)]; rfl
theorem frame_Sum_l0 (d : Nat) : ∀ (l : List Int) (c : BitVec 32) (i : Nat), (∀ x ∈ l, 0 ≤ x ∧ x < 256) → l.length - i = d → i ≤ l.length → l.length ≤ 140737488351232 →
    Ev (fun k => frame_Sum.l0 k (c.toNat : Int) l (l.length : Int) i) (((~~~ (crcL (l.drop i) c)).toNat : Nat) : Int) := by
  induction d with
  | zero =>
    intro l c i hb hd hi hl
    refine Ev.step (f := fun _ => some (((~~~ c).toNat : Nat) : Int)) (fun k => ?_) (by rw [List.drop_of_length_le (by omega)]; exact Ev.now _)
    simp only [frame_Sum.l0]; rw [if_neg (by omega), bx32, ofI, show BitVec.ofInt 32 4294967295 = BitVec.allOnes 32 from by decide, BitVec.allOnes_xor]
  | succ d ih =>
    intro l c i hb hd hi hl
    have hc := hb _ (rd_mem l i (by omega))
    have g := ih l (crcSteps 8 (c ^^^ BitVec.ofInt 32 (rd l i))) (i + 1) hb (by omega) (by omega) hl
    rw [rd_drop l i (by omega)]
    have g2 := frame_Sum_l1 8 (c ^^^ BitVec.ofInt 32 (rd l i)) l (l.length : Int) i 0 _ rfl (by omega) (by rw [w64 (by omega) (by omega)]; exact g)
    refine Ev.step (fun k => ?_) g2
    simp only [frame_Sum.l0]
    rw [if_pos (by omega), if_pos (by omega), if_pos (by omega), Int.emod_eq_of_lt (by omega) (by omega), bx32, ofI]; rfl
theorem frame_Sum_ev (l : List Int) (hb : ∀ x ∈ l, 0 ≤ x ∧ x < 256) (hl : l.length ≤ 140737488351232) : Ev (fun k => frame_Sum.f k l) (sumZ l) := by
  have g := frame_Sum_l0 l.length l (BitVec.allOnes 32) 0 hb rfl (by omega) hl
  exact g
theorem frame_Size_is (n : Int) (h0 : -1099511627776 ≤ n) (h1 : n ≤ 1099511627776) : frame_Size.f n = some (20 + mx n 0) := by
  unfold frame_Size.f mx
  by_cases c : n < 0
  · simp only [c, if_true]; rw [if_neg (by omega), w64 (by omega) (by omega)]; rfl
  · simp only [c, if_false]; rw [if_neg (by omega), w64 (by omega) (by omega)]; congr 1; omega
theorem lives08 : Ev (fun k => inquestlaw08_lives.f k) true := by
  refine Ev.bind (f := fun _ (t : Int) => (if t = 3421780262 then ((frame_Size.f 0).bind fun t116 => (some (t116 == 20))) else (some false))) (frame_Sum_ev [49, 50, 51, 52, 53, 54, 55, 56, 57] (by decide) (by decide)) ?_
  rw [show sumZ [49, 50, 51, 52, 53, 54, 55, 56, 57] = 3421780262 from by decide +kernel, if_pos rfl]
  exact Ev.congr (fun _ => (by decide +kernel : _ = some true)) (Ev.now true)
theorem r08_shifted_l0 (d : Nat) : ∀ (c : BitVec 32) (j : Nat), 8 - j = d → j ≤ 8 → Ev (fun k => inquestref08_shifted.l0 k (c.toNat : Int) j) ((crcSteps d c).toNat : Int) := by
  induction d with
  | zero =>
    intro c j hd hj
    refine Ev.step (f := fun _ => some (c.toNat : Int)) (fun k => ?_) (Ev.now _)
    simp only [inquestref08_shifted.l0]; rw [if_neg (by omega)]
  | succ d ih =>
    intro c j hd hj
    have lt := c.isLt
    refine Ev.step (fun k => ?_) (ih (crcStep c) (j + 1) (by omega) (by omega))
    simp only [inquestref08_shifted.l0]
    rw [if_pos (by omega), Int.tmod_eq_emod_of_nonneg (by omega), Int.tdiv_eq_ediv_of_nonneg (by omega), Int.emod_eq_of_lt (a := (c.toNat : Int) / 2) (by omega) (by omega), w64 (by omega) (by omega)]
    unfold crcStep
    by_cases h : c.toNat % 2 = 1
    · rw [if_pos (by omega), if_pos h, bx32, ofI_half]; rfl
    · rw [if_neg (by omega), if_neg h, ← ofI_half, BitVec.xor_zero, BitVec.toNat_ofInt]
      congr 1; omega
theorem r08_Sum_l0 (d : Nat) : ∀ (l : List Int) (c : BitVec 32) (i : Nat), (∀ x ∈ l, 0 ≤ x ∧ x < 256) → l.length - i = d → i ≤ l.length → l.length ≤ 140737488351232 →
    Ev (fun k => inquestref08_Sum.l0 k l (c.toNat : Int) i) (((~~~ (crcL (l.drop i) c)).toNat : Nat) : Int) := by
  induction d with
  | zero =>
    intro l c i hb hd hi hl
    refine Ev.step (f := fun _ => some (((~~~ c).toNat : Nat) : Int)) (fun k => ?_) (by rw [List.drop_of_length_le (by omega)]; exact Ev.now _)
    simp only [inquestref08_Sum.l0]; rw [if_neg (by omega), bx32, ofI, show BitVec.ofInt 32 4294967295 = BitVec.allOnes 32 from by decide, BitVec.xor_allOnes]
  | succ d ih =>
    intro l c i hb hd hi hl
    have hc := hb _ (rd_mem l i (by omega))
    have g := ih l (crcSteps 8 (c ^^^ BitVec.ofInt 32 (rd l i))) (i + 1) hb (by omega) (by omega) hl
    rw [rd_drop l i (by omega)]
    have g1 := r08_shifted_l0 8 (c ^^^ BitVec.ofInt 32 (rd l i)) 0 rfl (by omega)
    refine Ev.step (f := fun k => (inquestref08_shifted.f k ((c ^^^ BitVec.ofInt 32 (rd l i)).toNat : Int)).bind fun t149 => (inquestref08_Sum.l0 k l t149 (wrap64 ((i : Int) + 1)))) (fun k => ?_) ?_
    · simp only [inquestref08_Sum.l0]
      rw [if_pos (by omega), if_pos (by omega), Int.emod_eq_of_lt (by omega) (by omega), bx32, ofI]
    · refine Ev.bind (f := fun k t149 => (inquestref08_Sum.l0 k l t149 (wrap64 ((i : Int) + 1)))) g1 ?_
      rw [w64 (by omega) (by omega)]; exact g
theorem r08_Sum_ev (l : List Int) (hb : ∀ x ∈ l, 0 ≤ x ∧ x < 256) (hl : l.length ≤ 140737488351232) : Ev (fun k => inquestref08_Sum.f k l) (sumZ l) := by
  have g := r08_Sum_l0 l.length l (BitVec.allOnes 32) 0 hb rfl (by omega) hl
  exact g
/-- A sum as bytes, the lowest first. -/
def four (c : Int) : List Int := [c % 256, (c / 256) % 256, (c / 65536) % 256, (c / 16777216) % 256]
theorem four_bytes (c : Int) : ∀ x ∈ four c, 0 ≤ x ∧ x < 256 := by
  intro x hx
  simp only [four, List.mem_cons, List.not_mem_nil, or_false] at hx
  omega
def headL (seq n : Int) : List Int := putL n 4 ++ putL seq 8
theorem headL_len (seq n : Int) : (headL seq n).length = 12 := by simp [headL, putL_length]
theorem headL_bytes (seq n : Int) : ∀ c ∈ headL seq n, 0 ≤ c ∧ c < 256 := by
  intro c hc
  rcases List.mem_append.mp hc with h | h
  · exact putL_bytes _ _ c h
  · exact putL_bytes _ _ c h
/-- A frame. -/
def putF (seq : Int) (b : List Int) : List Int := headL seq b.length ++ four (sumZ (headL seq b.length)) ++ b ++ four (sumZ b)
theorem putF_len (seq : Int) (b : List Int) : (putF seq b).length = b.length + 20 := by simp [putF, headL_len, four]; omega
theorem putF_bytes (seq : Int) (b : List Int) (hb : ∀ c ∈ b, 0 ≤ c ∧ c < 256) : ∀ c ∈ putF seq b, 0 ≤ c ∧ c < 256 := by
  intro c hc
  rcases List.mem_append.mp hc with h | h
  · rcases List.mem_append.mp h with h | h
    · rcases List.mem_append.mp h with h | h
      · exact headL_bytes _ _ c h
      · exact four_bytes _ c h
    · exact hb c h
  · exact four_bytes _ c h
def putA (seq : Int) (b : List Int) : List Int × Int := if seq = 0 then ([], 2) else if 16384 < b.length then ([], 5) else (putF seq b, 0)
theorem low_is (c : Int) : frame_low.f c = some (four c) := rfl
theorem Four_is (c : Int) (h0 : 0 ≤ c) (h1 : c < 4294967296) : inquestref08_Four.f c = some (four c) := by
  unfold inquestref08_Four.f four
  rw [Int.tmod_eq_emod_of_nonneg h0, Int.tdiv_eq_ediv_of_nonneg h0, Int.tdiv_eq_ediv_of_nonneg h0, Int.tdiv_eq_ediv_of_nonneg h0, Int.emod_eq_of_lt (a := c / 256) (b := 4294967296) (by omega) (by omega), Int.emod_eq_of_lt (a := c / 65536) (b := 4294967296) (by omega) (by omega), Int.emod_eq_of_lt (a := c / 16777216) (b := 4294967296) (by omega) (by omega), Int.emod_emod_of_dvd _ (by decide)]
theorem mid4 (l : List Int) (a : Nat) (h : a + 4 ≤ l.length) : (l.take (a + 4)).drop a = [rd l a, rd l ((a : Int) + 1), rd l ((a : Int) + 2), rd l ((a : Int) + 3)] := by
  have e (i : Nat) (h : i < l.length) : l[i]? = some (rd l i) := by simp [rd, List.getElem?_eq_getElem h]
  refine List.ext_getElem? fun i => ?_
  rw [List.getElem?_drop, List.getElem?_take]
  match i with
  | 0 => rw [if_pos (by omega), e _ (by omega)]; rfl
  | 1 => rw [if_pos (by omega), e _ (by omega)]; rfl
  | 2 => rw [if_pos (by omega), e _ (by omega)]; rfl
  | 3 => rw [if_pos (by omega), e _ (by omega)]; rfl
  | i + 4 => rw [if_neg (by omega)]; simp
theorem stands_is (l : List Int) (a : Nat) (c : Int) (h : a + 4 ≤ l.length) (hl : l.length ≤ 140737488351232) : frame_stands.f l a c = some (decide ((l.take (a + 4)).drop a = four c)) := by
  unfold frame_stands.f
  rw [mid4 l a h]
  simp only [low_is, Option.bind_some]
  have e0 : rd (four c) 0 = c % 256 := rfl
  have e1 : rd (four c) 1 = (c / 256) % 256 := rfl
  have e2 : rd (four c) 2 = (c / 65536) % 256 := rfl
  have e3 : rd (four c) 3 = (c / 16777216) % 256 := rfl
  have lf : ((four c).length : Int) = 4 := rfl
  rw [w64 (i := (a : Int) + 1) (by omega) (by omega), w64 (i := (a : Int) + 2) (by omega) (by omega), w64 (i := (a : Int) + 3) (by omega) (by omega), lf, e0, e1, e2, e3]
  simp only [show (0 : Int) ≤ a from by omega, show (a : Int) < l.length from by omega, show (0 : Int) < 4 from by omega, show (0 : Int) ≤ a + 1 from by omega, show (a : Int) + 1 < l.length from by omega, show (1 : Int) < 4 from by omega, show (0 : Int) ≤ a + 2 from by omega, show (a : Int) + 2 < l.length from by omega, show (2 : Int) < 4 from by omega, show (0 : Int) ≤ a + 3 from by omega, show (a : Int) + 3 < l.length from by omega, show (3 : Int) < 4 from by omega, if_true]
  unfold four
  by_cases h0 : rd l a = c % 256
  · rw [if_pos h0]
    by_cases h1 : rd l ((a : Int) + 1) = (c / 256) % 256
    · rw [if_pos h1]
      by_cases h2 : rd l ((a : Int) + 2) = (c / 65536) % 256
      · rw [if_pos h2]
        by_cases h3 : rd l ((a : Int) + 3) = (c / 16777216) % 256
        · simp [h0, h1, h2, h3]
        · simp [h0, h1, h2, h3]
      · rw [if_neg h2]; simp [h2]
    · rw [if_neg h1]; simp [h1]
  · rw [if_neg h0]; simp [h0]
def lenF (b : List Int) : Int := getL 0 (b.take 4)
def seqF (b : List Int) : Int := getL 0 ((b.take 12).drop 4)
/-- What is read of bytes. -/
def readF (b : List Int) : Int × List Int × Int × Int :=
  if b.length < 16 then (0, [], 0, 3)
  else if (b.take 16).drop 12 = four (sumZ (b.take 12)) then
    (if seqF b = 0 then (0, [], 0, 4) else if 16384 < lenF b then (0, [], 0, 5) else if b.length < 20 + (lenF b).toNat then (0, [], 0, 3)
     else if (b.take (16 + (lenF b).toNat + 4)).drop (16 + (lenF b).toNat) = four (sumZ ((b.take (16 + (lenF b).toNat)).drop 16)) then (seqF b, (b.take (16 + (lenF b).toNat)).drop 16, lenF b + 20, 0) else (0, [], 0, 13))
  else (0, [], 0, 13)
theorem getA_4 (b : List Int) (h : 16 ≤ b.length) : getA (b.take 4) = (lenF b, true) := by
  unfold getA lenF; rw [if_neg (by rw [List.length_take]; omega)]
theorem getA_8 (b : List Int) (h : 16 ≤ b.length) : getA ((b.take 12).drop 4) = (seqF b, true) := by
  unfold getA seqF; rw [if_neg (by rw [List.length_drop, List.length_take]; omega)]
theorem lenF_bd (b : List Int) (h : 16 ≤ b.length) (hb : ∀ c ∈ b, 0 ≤ c ∧ c < 256) : 0 ≤ lenF b ∧ lenF b < 4294967296 := by
  have := getL_bd (b.take 4) 0 (by omega) (fun c hc => hb c (List.mem_of_mem_take hc))
  rw [List.length_take, show min 4 b.length = 4 from by omega] at this
  refine ⟨this.1, ?_⟩
  have h2 := this.2
  simp only [show (0 : Int) + 1 = 1 from rfl, Int.one_mul] at h2
  exact h2
theorem seqF_bd (b : List Int) (h : 16 ≤ b.length) (hb : ∀ c ∈ b, 0 ≤ c ∧ c < 256) : 0 ≤ seqF b ∧ seqF b < 18446744073709551616 := by
  have := getL_bd ((b.take 12).drop 4) 0 (by omega) (fun c hc => hb c (List.mem_of_mem_take (List.mem_of_mem_drop hc)))
  rw [List.length_drop, List.length_take, show min 12 b.length - 4 = 8 from by omega] at this
  refine ⟨this.1, ?_⟩
  have h2 := this.2
  simp only [show (0 : Int) + 1 = 1 from rfl, Int.one_mul] at h2
  exact h2
theorem readF_err (b : List Int) : (readF b).2.2.2 = 0 ∨ ((readF b).1 = 0 ∧ (readF b).2.1 = [] ∧ (readF b).2.2.1 = 0) := by
  unfold readF
  repeat' split
  all_goals simp
theorem frame_Read_ev (b : List Int) (hb : ∀ c ∈ b, 0 ≤ c ∧ c < 256) (hl : b.length ≤ 40000) : Ev (fun k => frame_Read.f k b) (readF b) := by
  unfold readF
  by_cases c1 : b.length < 16
  · rw [if_pos c1]
    exact Ev.congr (fun k => by unfold frame_Read.f; rw [if_pos (by omega)]) (Ev.now _)
  rw [if_neg c1]
  have hl4 := lenF_bd b (by omega) hb
  have hs8 := seqF_bd b (by omega) hb
  refine Ev.congr (fun k => by unfold frame_Read.f; rw [if_neg (by omega), if_pos (by omega)]) ?_
  refine Ev.bind (frame_Sum_ev (b.take 12) (fun c hc => hb c (List.mem_of_mem_take hc)) (by rw [List.length_take]; omega)) ?_
  have st := stands_is b 12 (sumZ (b.take 12)) (by omega) (by omega)
  simp only [show ((12 : Nat) : Int) = 12 from rfl] at st
  simp only [st, Option.bind_some]
  by_cases c2 : (b.take (12 + 4)).drop 12 = four (sumZ (b.take 12))
  · rw [if_pos c2]
    simp only [decide_eq_true c2, if_true, show (4 : Int) ≤ b.length from by omega]
    have g4 := word_Get_ev (b.take 4) (fun c hc => hb c (List.mem_of_mem_take hc))
    rw [getA_4 b (by omega)] at g4
    refine Ev.bind g4 ?_
    simp only [show (4 : Int) ≤ 12 from by omega, if_true]
    have g8 := word_Get_ev ((b.take 12).drop 4) (fun c hc => hb c (List.mem_of_mem_take (List.mem_of_mem_drop hc)))
    rw [getA_8 b (by omega)] at g8
    refine Ev.bind g8 ?_
    simp only
    by_cases c3 : seqF b = 0
    · rw [if_pos c3]; exact Ev.congr (fun k => by rw [if_pos c3]) (Ev.now _)
    rw [if_neg c3]; refine Ev.congr (fun k => by rw [if_neg c3]) ?_
    by_cases c4 : 16384 < lenF b
    · rw [if_pos c4]; exact Ev.congr (fun k => by rw [if_pos c4]) (Ev.now _)
    rw [if_neg c4]; refine Ev.congr (fun k => by rw [if_neg c4]) ?_
    rw [w64 (i := lenF b) (by omega) (by omega), w64 (i := (b.length : Int) - 20) (by omega) (by omega), w64 (i := 16 + lenF b) (by omega) (by omega), w64 (i := lenF b + 20) (by omega) (by omega)]
    by_cases c5 : b.length < 20 + (lenF b).toNat
    · rw [if_pos c5]; exact Ev.congr (fun k => by rw [if_pos (by omega)]) (Ev.now _)
    rw [if_neg c5]; refine Ev.congr (fun k => by rw [if_neg (by omega), if_pos (by omega), if_pos (by omega)]) ?_
    have e16 : (16 + lenF b).toNat = 16 + (lenF b).toNat := by omega
    have e16' : 16 + lenF b = ((16 + (lenF b).toNat : Nat) : Int) := by omega
    simp only [e16]
    refine Ev.bind (frame_Sum_ev ((b.take (16 + (lenF b).toNat)).drop 16) (fun c hc => hb c (List.mem_of_mem_take (List.mem_of_mem_drop hc))) (by rw [List.length_drop, List.length_take]; omega)) ?_
    have st := stands_is b (16 + (lenF b).toNat) (sumZ ((b.take (16 + (lenF b).toNat)).drop 16)) (by omega) (by omega)
    rw [← e16'] at st
    simp only [st, Option.bind_some]
    by_cases c6 : (b.take (16 + (lenF b).toNat + 4)).drop (16 + (lenF b).toNat) = four (sumZ ((b.take (16 + (lenF b).toNat)).drop 16))
    · rw [if_pos c6]
      have hlt : (([] : List Int).length + ((b.take (16 + (lenF b).toNat)).drop 16).length) < 140737488355328 := by rw [List.length_drop, List.length_take]; simp; omega
      simp only [decide_eq_true c6, if_true, hlt]
      exact Ev.now _
    · rw [if_neg c6]
      simp only [decide_eq_false c6]
      exact Ev.congr (fun k => if_neg (by simp)) (Ev.now _)
  · rw [if_neg c2]
    simp only [decide_eq_false c2]
    exact Ev.congr (fun k => if_neg (by simp)) (Ev.now _)
theorem readF_one (b : List Int) (hb : ∀ c ∈ b, 0 ≤ c ∧ c < 256) (he : (readF b).2.2.2 = 0) :
    0 < (readF b).1 ∧ (readF b).1 < 18446744073709551616 ∧ (readF b).2.1.length ≤ 16384 ∧ (∀ c ∈ (readF b).2.1, 0 ≤ c ∧ c < 256) ∧ (readF b).2.2.1 = (readF b).2.1.length + 20 ∧ (readF b).2.1.length + 20 ≤ b.length ∧ putF (readF b).1 (readF b).2.1 = b.take ((readF b).2.1.length + 20) := by
  unfold readF at he ⊢
  split at he
  · simp at he
  rename_i c1
  split at he
  rotate_left
  · simp at he
  rename_i c2
  split at he
  · simp at he
  rename_i c3
  split at he
  · simp at he
  rename_i c4
  split at he
  · simp at he
  rename_i c5
  split at he
  rotate_left
  · simp at he
  rename_i c6
  have hl4 := lenF_bd b (by omega) hb
  have hs8 := seqF_bd b (by omega) hb
  rw [if_neg c1, if_pos c2, if_neg c3, if_neg c4, if_neg c5, if_pos c6]
  simp only
  have lt : ((b.take (16 + (lenF b).toNat)).drop 16).length = (lenF b).toNat := by rw [List.length_drop, List.length_take]; omega
  refine ⟨by omega, hs8.2, by omega, fun c hc => hb c (List.mem_of_mem_take (List.mem_of_mem_drop hc)), by omega, by omega, ?_⟩
  unfold putF
  have h12 : headL (seqF b) ((b.take (16 + (lenF b).toNat)).drop 16).length = b.take 12 := by
    unfold headL
    rw [lt, show (((lenF b).toNat : Nat) : Int) = lenF b from by omega]
    have p4 := putL_getL (b.take 4) (fun c hc => hb c (List.mem_of_mem_take hc))
    have p8 := putL_getL ((b.take 12).drop 4) (fun c hc => hb c (List.mem_of_mem_take (List.mem_of_mem_drop hc)))
    rw [List.length_take, show min 4 b.length = 4 from by omega] at p4
    rw [List.length_drop, List.length_take, show min 12 b.length - 4 = 8 from by omega] at p8
    unfold lenF seqF
    rw [p4, p8, show b.take 4 = (b.take 12).take 4 from by rw [List.take_take]; rfl, List.take_append_drop]
  rw [h12, ← c2, ← c6, lt]
  rw [show b.take 12 = (b.take 16).take 12 from by rw [List.take_take]; rfl, List.take_append_drop]
  rw [show b.take 16 = (b.take (16 + (lenF b).toNat)).take 16 from by rw [List.take_take]; congr 1; omega, List.take_append_drop]
  rw [show b.take (16 + (lenF b).toNat) = (b.take (16 + (lenF b).toNat + 4)).take (16 + (lenF b).toNat) from by rw [List.take_take]; congr 1; omega, List.take_append_drop]
  congr 1; omega
theorem r08_Read_ev (b : List Int) (hb : ∀ c ∈ b, 0 ≤ c ∧ c < 256) (hl : b.length ≤ 40000) : Ev (fun k => inquestref08_Read.f k b) (readF b) := by
  unfold readF
  by_cases c1 : b.length < 16
  · rw [if_pos c1]
    exact Ev.congr (fun k => by unfold inquestref08_Read.f; rw [if_pos (by omega)]) (Ev.now _)
  rw [if_neg c1]
  have hl4 := lenF_bd b (by omega) hb
  have hs8 := seqF_bd b (by omega) hb
  refine Ev.congr (fun k => by unfold inquestref08_Read.f; rw [if_neg (by omega), if_pos (by omega), if_pos (by omega), if_pos (by omega)]) ?_
  refine Ev.bind (r08_Sum_ev (b.take 12) (fun c hc => hb c (List.mem_of_mem_take hc)) (by rw [List.length_take]; omega)) ?_
  have s1 := sumZ_bd (b.take 12)
  simp only [Four_is _ s1.1 s1.2, Option.bind_some]
  have sm := same01 ((b.take 16).drop 12) (four (sumZ (b.take 12))) (by rw [List.length_drop, List.length_take]; omega)
  refine Ev.bind sm ?_
  by_cases c2 : (b.take 16).drop 12 = four (sumZ (b.take 12))
  · rw [if_pos c2]
    simp only [decide_eq_true c2, if_true, show (4 : Int) ≤ b.length from by omega]
    have g4 := r01_Get_ev (b.take 4) (fun c hc => hb c (List.mem_of_mem_take hc))
    rw [getA_4 b (by omega)] at g4
    refine Ev.bind g4 ?_
    simp only [show (4 : Int) ≤ 12 from by omega, if_true]
    have g8 := r01_Get_ev ((b.take 12).drop 4) (fun c hc => hb c (List.mem_of_mem_take (List.mem_of_mem_drop hc)))
    rw [getA_8 b (by omega)] at g8
    refine Ev.bind g8 ?_
    simp only
    by_cases c3 : seqF b = 0
    · rw [if_pos c3]; exact Ev.congr (fun k => by rw [if_pos c3]) (Ev.now _)
    rw [if_neg c3]; refine Ev.congr (fun k => by rw [if_neg c3]) ?_
    by_cases c4 : 16384 < lenF b
    · rw [if_pos c4]; exact Ev.congr (fun k => by rw [if_pos c4]) (Ev.now _)
    rw [if_neg c4]; refine Ev.congr (fun k => by rw [if_neg c4]) ?_
    rw [w64 (i := lenF b) (by omega) (by omega), wu64 (b.length : Int), wu64 (20 + lenF b), wu64 (16 + lenF b), Int.emod_eq_of_lt (a := (b.length : Int)) (by omega) (by omega), Int.emod_eq_of_lt (a := 20 + lenF b) (by omega) (by omega), Int.emod_eq_of_lt (a := 16 + lenF b) (by omega) (by omega), w64 (i := lenF b + 20) (by omega) (by omega)]
    by_cases c5 : b.length < 20 + (lenF b).toNat
    · rw [if_pos c5]; exact Ev.congr (fun k => by rw [if_pos (by omega)]) (Ev.now _)
    rw [if_neg c5]; refine Ev.congr (fun k => by rw [if_neg (by omega), if_pos (by omega), if_pos (by omega), if_pos (by omega), if_pos (by omega), if_pos (by omega)]) ?_
    have e16 : (16 + lenF b).toNat = 16 + (lenF b).toNat := by omega
    have e20 : (20 + lenF b).toNat = 16 + (lenF b).toNat + 4 := by omega
    simp only [e16, e20]
    refine Ev.bind (r08_Sum_ev ((b.take (16 + (lenF b).toNat)).drop 16) (fun c hc => hb c (List.mem_of_mem_take (List.mem_of_mem_drop hc))) (by rw [List.length_drop, List.length_take]; omega)) ?_
    have s2 := sumZ_bd ((b.take (16 + (lenF b).toNat)).drop 16)
    simp only [Four_is _ s2.1 s2.2, Option.bind_some]
    have sm := same01 ((b.take (16 + (lenF b).toNat + 4)).drop (16 + (lenF b).toNat)) (four (sumZ ((b.take (16 + (lenF b).toNat)).drop 16))) (by rw [List.length_drop, List.length_take]; omega)
    refine Ev.bind sm ?_
    by_cases c6 : (b.take (16 + (lenF b).toNat + 4)).drop (16 + (lenF b).toNat) = four (sumZ ((b.take (16 + (lenF b).toNat)).drop 16))
    · rw [if_pos c6]
      simp only [decide_eq_true c6, if_true, copy01 ((b.take (16 + (lenF b).toNat)).drop 16) (by rw [List.length_drop, List.length_take]; omega), Option.bind_some]
      exact Ev.now _
    · rw [if_neg c6]
      simp only [decide_eq_false c6]
      exact Ev.congr (fun k => if_neg (by simp)) (Ev.now _)
  · rw [if_neg c2]
    simp only [decide_eq_false c2]
    exact Ev.congr (fun k => if_neg (by simp)) (Ev.now _)
theorem reads_l0 (d : Nat) : ∀ (a b t : List Int) (i : Nat), a = b → a.length ≤ 20000 → t.length ≤ 40000 → t.length - i = d → i ≤ t.length →
    Ev (fun k => inquestlaw08_FrameReads.l0 k a b t i) true := by
  induction d with
  | zero =>
    intro a b t i hab ha hl hd hi
    refine Ev.step (f := fun k => (inquestref01_Same.f k b a).bind fun t198 => (if t198 = true then ((inquestlaw08_lives.f k).bind fun t199 => (some t199)) else (some false))) (fun k => ?_) ?_
    · simp only [inquestlaw08_FrameReads.l0]; rw [if_neg (by omega)]
    · refine Ev.bind (same01_t b a (by rw [← hab]; omega) hab.symm) ?_
      simp only [if_true]
      exact Ev.bind lives08 (Ev.now _)
  | succ d ih =>
    intro a b t i hab ha hl hd hi
    refine Ev.step (fun k => ?_) (ih a b (t.set i ((rd t i + 1) % 256)) (i + 1) hab ha (by simpa using hl) (by simp; omega) (by simp; omega))
    simp only [inquestlaw08_FrameReads.l0]
    rw [if_pos (by omega), if_pos (by omega), w64 (by omega) (by omega), Int.toNat_natCast]; rfl
theorem FrameReads : inquestlaw08_FrameReads.Pure := by
  intro b _ hl hb
  have hb := wf_u8s hb
  refine Ev.rounds ?_
  have hc : inquestref01_Cut.f b 20000 = some (b.take 20000) := cut01 b 20000
  have hb' : ∀ c ∈ b.take 20000, 0 ≤ c ∧ c < 256 := fun c hc => hb c (List.mem_of_mem_take hc)
  have l20 : (b.take 20000).length ≤ 20000 := by rw [List.length_take]; omega
  unfold inquestlaw08_FrameReads.f
  rw [hc]
  simp only [Option.bind_some, copy01 (b.take 20000) (by omega)]
  generalize b.take 20000 = l at hb' l20
  refine Ev.bind (frame_Read_ev l hb' (by omega)) ?_
  refine Ev.bind (r08_Read_ev l hb' (by omega)) ?_
  have tl : (readF l).2.1.length ≤ 20000 := by
    by_cases c : (readF l).2.2.2 = 0
    · have := readF_one l hb' c; omega
    · rw [((readF_err l).resolve_left c).2.1]; simp
  simp only [if_true]
  refine Ev.bind (same01_t _ _ (by omega) rfl) ?_
  simp only [if_true, bne_self_eq_false]
  refine Ev.step (fun k => ?_) (reads_l0 (readF l).2.1.length l l (readF l).2.1 0 rfl l20 (by omega) (by omega) (by omega))
  simp only [inquestlaw08_FrameReads.j0]
  rw [if_neg (by simp)]; rfl

end Go.Proofs.Ytcbkkgodlnofmaa.Pure
