/- The law WordTurns answers true at every input: what any bits are when they are turned, what the lowest bits of any number are. No condition. -/
import Derived.Test.YtidplimfeelonaaPWordTurnsx1
namespace Go.Proofs.Ytidplimfeelonaa.Pure
open Go.RowKit Go.Proofs.Ytidplimfeelonaa.PWordTurns Go.Proofs.YtidplimfeelonaaW.PrintWords Go.Proofs.YtidplimfeelonaaW.PrintLast Go.Proofs.YtidplimfeelonaaW.PrintMore
theorem w64 {i : Int} (h : -9223372036854775808 ≤ i) (h' : i ≤ 9223372036854775807) : wrap64 i = i := by unfold wrap64; omega
theorem wf_u64 {a : Int} (h : (Lit.int .u64 a).wf = true) : 0 ≤ a ∧ a < 18446744073709551616 := by
  simp [Lit.wf, IntKind.min, IntKind.max, IntKind.signed, IntKind.bits] at h; omega
theorem wf_i64 {a : Int} (h : (Lit.int .i64 a).wf = true) : -9223372036854775808 ≤ a ∧ a ≤ 9223372036854775807 := by
  simp [Lit.wf, IntKind.min, IntKind.max, IntKind.signed, IntKind.bits] at h; omega
theorem wf_u32 {a : Int} (h : (Lit.int .u32 a).wf = true) : 0 ≤ a ∧ a < 4294967296 := by
  simp [Lit.wf, IntKind.min, IntKind.max, IntKind.signed, IntKind.bits] at h; omega
theorem wu64 (n : Int) : IntKind.u64.wrap n = n % 18446744073709551616 := by simp [IntKind.wrap, IntKind.bits, IntKind.signed]
theorem wu32 (n : Int) : IntKind.u32.wrap n = n % 4294967296 := by simp [IntKind.wrap, IntKind.bits, IntKind.signed]
theorem wi64 (n : Int) : IntKind.i64.wrap n = wrap64 n := by
  simp [IntKind.wrap, IntKind.bits, IntKind.signed, wrap64]; split <;> omega
theorem bx_u64 (x y : Int) : Go.bits .xor .u64 x y = IntKind.u64.wrap ((BitVec.ofInt 64 x ^^^ BitVec.ofInt 64 y).toNat : Int) := rfl
theorem bx_i64 (x y : Int) : Go.bits .xor .i64 x y = IntKind.i64.wrap ((BitVec.ofInt 64 x ^^^ BitVec.ofInt 64 y).toNat : Int) := rfl
theorem ba_u64 (x y : Int) : Go.bits .and .u64 x y = IntKind.u64.wrap ((BitVec.ofInt 64 x &&& BitVec.ofInt 64 y).toNat : Int) := rfl
theorem bo_u64 (x y : Int) : Go.bits .or .u64 x y = IntKind.u64.wrap ((BitVec.ofInt 64 x ||| BitVec.ofInt 64 y).toNat : Int) := rfl
theorem bx_u32 (x y : Int) : Go.bits .xor .u32 x y = IntKind.u32.wrap ((BitVec.ofInt 32 x ^^^ BitVec.ofInt 32 y).toNat : Int) := rfl
theorem ba_u32 (x y : Int) : Go.bits .and .u32 x y = IntKind.u32.wrap ((BitVec.ofInt 32 x &&& BitVec.ofInt 32 y).toNat : Int) := rfl
theorem bo_u32 (x y : Int) : Go.bits .or .u32 x y = IntKind.u32.wrap ((BitVec.ofInt 32 x ||| BitVec.ofInt 32 y).toNat : Int) := rfl
theorem bo_u8 (x y : Int) : Go.bits .or .u8 x y = IntKind.u8.wrap ((BitVec.ofInt 8 x ||| BitVec.ofInt 8 y).toNat : Int) := rfl
theorem ba_u8 (x y : Int) : Go.bits .and .u8 x y = IntKind.u8.wrap ((BitVec.ofInt 8 x &&& BitVec.ofInt 8 y).toNat : Int) := rfl
/-- The bytes of a number, the highest first. -/
def putL (x : Int) : Nat → List Int
  | 0 => []
  | n + 1 => putL (x / 256) n ++ [x % 256]
theorem putL_length (x : Int) (n : Nat) : (putL x n).length = n := by
  induction n generalizing x with
  | zero => rfl
  | succ n ih => simp [putL, ih]
theorem word_Put_l0 (m : Nat) : ∀ (x : Int) (xs : List Int), m ≤ xs.length → xs.length ≤ 8 → Ev (fun k => word_Put.l0 k x xs ((m : Int) - 1)) (putL x m ++ xs.drop m) := by
  induction m with
  | zero =>
    intro x xs _ _
    refine ⟨1, fun k hk => ?_⟩
    obtain ⟨k, rfl⟩ : ∃ j, k = j + 1 := ⟨k - 1, by omega⟩
    simp only [word_Put.l0]; rw [if_neg (by omega)]; simp [putL]
  | succ m ih =>
    intro x xs hm hl
    refine Ev.step (f := fun k => word_Put.l0 k (x / 256) (xs.set m (x % 256)) ((m : Int) - 1)) (fun k => ?_) ?_
    · simp only [word_Put.l0]
      rw [if_pos (by omega), if_pos (by omega), if_pos (by omega), w64 (by omega) (by omega)]
      rw [show ((m + 1 : Nat) : Int) - 1 = (m : Int) from by omega, Int.toNat_natCast]
    · have h := ih (x / 256) (xs.set m (x % 256)) (by simp; omega) (by simp; omega)
      have e : putL (x / 256) m ++ (xs.set m (x % 256)).drop m = putL x (m + 1) ++ xs.drop (m + 1) := by
        rw [List.drop_eq_getElem_cons (by simp; omega)]
        simp only [putL, List.getElem_set_self, List.append_assoc, List.cons_append, List.nil_append]
        congr 2
        rw [List.drop_set_of_lt (by omega)]
      rw [e] at h; exact h
/-- What word.Put answers. -/
theorem word_Put_ev (x n : Int) (h1 : 1 ≤ n) (h8 : n ≤ 8) : Ev (fun k => word_Put.f k x n) (putL x n.toNat) := by
  obtain ⟨m, rfl⟩ := Int.eq_ofNat_of_zero_le (show 0 ≤ n by omega)
  refine Ev.step (f := fun k => word_Put.l0 k x (List.replicate m 0) ((m : Int) - 1)) (fun k => ?_) ?_
  · unfold word_Put.f
    rw [if_neg (by omega), show decide ((m : Int) > 8) = false from decide_eq_false (by omega)]
    simp only [word_Put.j0]
    rw [if_neg (by simp), if_pos (by omega), if_pos (by omega), w64 (by omega) (by omega), Int.toNat_natCast]
  · have h := word_Put_l0 m x (List.replicate m 0) (by simp) (by simp; omega)
    simpa using h
theorem word_Put_none (x n : Int) (h : n < 1 ∨ 8 < n) : Ev (fun k => word_Put.f k x n) [] := by
  refine ⟨1, fun k hk => ?_⟩
  obtain ⟨k, rfl⟩ : ∃ j, k = j + 1 := ⟨k - 1, by omega⟩
  show word_Put.f (k + 1) x n = _
  unfold word_Put.f
  by_cases h1 : n < 1
  · rw [if_pos h1]; simp [word_Put.j0]
  · rw [if_neg h1, show decide (n > 8) = true from decide_eq_true (by omega)]; simp [word_Put.j0]
theorem lives01 : Ev (fun k => inquestlaw01_lives.f k) true := by
  refine Ev.bind (f := fun _ (t105 : List Int) => (if (t105.length : Int) = 1 then ((word_Zig.f 1).bind fun t108 => (some (t108 == 2))) else (some false))) (word_Put_ev 1 1 (by omega) (by omega)) (Ev.congr (fun _ => (by decide +kernel : _ = some true)) (Ev.now true))
/-- 32 bits, turned. -/
def rot (x : Int) (c : Nat) : Int := (((BitVec.ofInt 32 x).rotateRight c).toNat : Int)
theorem rot_lt (x : Int) (c : Nat) : 0 ≤ rot x c ∧ rot x c < 4294967296 := by
  unfold rot; have := ((BitVec.ofInt 32 x).rotateRight c).isLt; omega
theorem ofInt_rot (x : Int) (c : Nat) : BitVec.ofInt 32 (rot x c) = (BitVec.ofInt 32 x).rotateRight c := by
  unfold rot; rw [BitVec.ofInt_natCast, BitVec.ofNat_toNat, BitVec.setWidth_eq]
theorem rot_bit (x : BitVec 32) (c i : Nat) (h : i < 32) : (x.rotateRight c).getLsbD i = x.getLsbD ((i + c) % 32) := by
  rw [BitVec.getLsbD_rotateRight]
  by_cases h1 : i < 32 - c % 32
  · simp only [h1, decide_true, cond_true]; congr 1; omega
  · simp only [h1, decide_false, cond_false, h, Bool.true_and, decide_true]; congr 1; omega
theorem rot_rot (x : Int) (a b c : Nat) (h : (a + b) % 32 = c % 32) : rot (rot x a) b = rot x c := by
  have e : (BitVec.ofInt 32 (rot x a)).rotateRight b = (BitVec.ofInt 32 x).rotateRight c := by
    rw [ofInt_rot]
    refine BitVec.eq_of_getLsbD_eq fun i hi => ?_
    rw [rot_bit _ _ _ hi, rot_bit _ _ _ (Nat.mod_lt _ (by decide)), rot_bit _ _ _ hi]
    congr 1; omega
  unfold rot at e ⊢; rw [e]
theorem rot_mod (x : Int) (a c : Nat) (h : a % 32 = c % 32) : rot x a = rot x c := by
  have e : (BitVec.ofInt 32 x).rotateRight a = (BitVec.ofInt 32 x).rotateRight c := by
    refine BitVec.eq_of_getLsbD_eq fun i hi => ?_
    rw [rot_bit _ _ _ hi, rot_bit _ _ _ hi]; congr 1; omega
  unfold rot; rw [e]
theorem rot_zero (x : Int) (h : 0 ≤ x) (h' : x < 4294967296) : rot x 0 = x := by
  have e : (BitVec.ofInt 32 x).rotateRight 0 = BitVec.ofInt 32 x := by
    refine BitVec.eq_of_getLsbD_eq fun i hi => ?_
    rw [rot_bit _ _ _ hi]; congr 1; omega
  unfold rot; rw [e, BitVec.toNat_ofInt]; omega
theorem rot_xor (x y : Int) (c : Nat) : rot (Go.bits .xor .u32 x y) c = Go.bits .xor .u32 (rot x c) (rot y c) := by
  have n (v : BitVec 32) : (IntKind.u32.wrap (v.toNat : Int)) = (v.toNat : Int) := by have := v.isLt; rw [wu32]; omega
  rw [bx_u32, bx_u32, n, n]
  have e : (BitVec.ofInt 32 ((BitVec.ofInt 32 x ^^^ BitVec.ofInt 32 y).toNat : Int)).rotateRight c = BitVec.ofInt 32 (rot x c) ^^^ BitVec.ofInt 32 (rot y c) := by
    rw [ofInt_rot, ofInt_rot, BitVec.ofInt_natCast, BitVec.ofNat_toNat, BitVec.setWidth_eq]
    refine BitVec.eq_of_getLsbD_eq fun i hi => ?_
    rw [rot_bit _ _ _ hi, BitVec.getLsbD_xor, BitVec.getLsbD_xor, rot_bit _ _ _ hi, rot_bit _ _ _ hi]
  show (((BitVec.ofInt 32 _).rotateRight c).toNat : Int) = _
  rw [e]
theorem and31 (n : Int) : Go.bits .and .u64 (IntKind.u64.wrap n) 31 = n % 32 := by
  rw [ba_u64, BitVec.toNat_and, show (BitVec.ofInt 64 31).toNat = 2 ^ 5 - 1 from by decide, Nat.and_two_pow_sub_one_eq_mod, BitVec.toNat_ofInt, wu64, wu64]; omega
theorem word_Turn_is (x n : Int) (h : 0 ≤ x) (h' : x < 4294967296) : word_Turn.f x n = some (rot x (n % 32).toNat) := by
  unfold word_Turn.f
  rw [and31, if_pos (by omega), wu64, if_pos (by omega)]
  congr 1
  obtain ⟨c, hc⟩ := Int.eq_ofNat_of_zero_le (show 0 ≤ n % 32 by omega)
  have hc' : c < 32 := by omega
  rw [hc, show (32 - (c : Int)) % 18446744073709551616 = ((32 - c : Nat) : Int) from by omega]
  unfold shr shl rot
  rw [Int.toNat_natCast, Int.toNat_natCast, show min c IntKind.u32.bits = c from Nat.min_eq_left (by simp only [IntKind.bits]; omega), show min (32 - c) IntKind.u32.bits = 32 - c from Nat.min_eq_left (by simp only [IntKind.bits]; omega)]
  obtain ⟨y, rfl⟩ := Int.eq_ofNat_of_zero_le h
  rw [bo_u32, wu32, wu32, BitVec.rotateRight_def, Nat.mod_eq_of_lt hc', BitVec.toNat_or, BitVec.toNat_or, BitVec.toNat_ushiftRight, BitVec.toNat_shiftLeft, BitVec.toNat_ofInt, BitVec.toNat_ofInt, BitVec.toNat_ofInt]
  have e1 : ((y : Int) / 2 ^ c % ((2 ^ 32 : Nat) : Int)).toNat = y >>> c := by
    rw [Nat.shiftRight_eq_div_pow, show (2 : Int) ^ c = ((2 ^ c : Nat) : Int) from by simp, ← Int.natCast_ediv, ← Int.natCast_emod, Int.toNat_natCast]
    exact Nat.mod_eq_of_lt (Nat.lt_of_le_of_lt (Nat.div_le_self _ _) (by omega))
  have e2 : ((y : Int) * 2 ^ (32 - c) % 4294967296 % ((2 ^ 32 : Nat) : Int)).toNat = y <<< (32 - c) % 2 ^ 32 := by
    rw [Nat.shiftLeft_eq, show (2 : Int) ^ (32 - c) = ((2 ^ (32 - c) : Nat) : Int) from by simp, ← Int.natCast_mul]; omega
  have e3 : ((y : Int) % ((2 ^ 32 : Nat) : Int)).toNat = y := by omega
  rw [e1, e2, e3]
  have : y >>> c ||| y <<< (32 - c) % 2 ^ 32 < 2 ^ 32 := Nat.or_lt_two_pow (Nat.lt_of_le_of_lt (by rw [Nat.shiftRight_eq_div_pow]; exact Nat.div_le_self _ _) (show y < 2 ^ 32 by omega)) (Nat.mod_lt _ (by decide))
  omega
/-- The lowest n bits, the highest of them counting below 0. -/
def lowZ (x : Int) (n : Nat) : Int := (x + 2 ^ (n - 1)) % 2 ^ n - 2 ^ (n - 1)
theorem two_split (n : Nat) (h : 1 ≤ n) : (2 : Int) ^ n = 2 * 2 ^ (n - 1) := by
  obtain ⟨m, rfl⟩ : ∃ m, n = m + 1 := ⟨n - 1, by omega⟩
  rw [Int.pow_succ]; simp; omega
theorem two_pos (n : Nat) : (0 : Int) < 2 ^ n := Int.pow_pos (by decide)
theorem two_le (a b : Nat) (h : a ≤ b) : (2 : Int) ^ a ≤ 2 ^ b := by
  have := Nat.pow_le_pow_right (show 2 > 0 by decide) h
  exact_mod_cast this
theorem mul_mod_r (a b c : Int) (h : 0 < c) : a * c % (b * c) = a % b * c := by
  rw [Int.mul_comm a, Int.mul_comm b, Int.mul_emod_mul_of_pos _ _ h, Int.mul_comm]
theorem lowZ_bd (x : Int) (n : Nat) (h : 1 ≤ n) : -(2 ^ (n - 1)) ≤ lowZ x n ∧ lowZ x n < 2 ^ (n - 1) := by
  unfold lowZ
  have := two_split n h; have := two_pos n
  have := Int.emod_nonneg (x + 2 ^ (n - 1)) (show (2 : Int) ^ n ≠ 0 by omega)
  have := Int.emod_lt_of_pos (x + 2 ^ (n - 1)) (two_pos n)
  omega
theorem lowZ_self (y : Int) (n : Nat) (h : 1 ≤ n) (h0 : -(2 ^ (n - 1)) ≤ y) (h1 : y < 2 ^ (n - 1)) : lowZ y n = y := by
  unfold lowZ
  have := two_split n h
  rw [Int.emod_eq_of_lt (by omega) (by omega)]; omega
theorem lowZ_shl (x : Int) (n : Nat) (h : 1 ≤ n) (h' : n ≤ 63) : wrap64 (x * 2 ^ (64 - n)) = lowZ x n * 2 ^ (64 - n) := by
  have e1 : (9223372036854775808 : Int) = 2 ^ (n - 1) * 2 ^ (64 - n) := by rw [← Int.pow_add, show n - 1 + (64 - n) = 63 from by omega]; decide
  have e2 : (18446744073709551616 : Int) = 2 ^ n * 2 ^ (64 - n) := by rw [← Int.pow_add, show n + (64 - n) = 64 from by omega]; decide
  unfold wrap64 lowZ
  rw [e1, e2, ← Int.add_mul, mul_mod_r _ _ _ (two_pos _), ← Int.sub_mul]
theorem word_Low_is (x n : Int) (h : 1 ≤ n) (h' : n ≤ 63) : word_Low.f x n = some (lowZ x n.toNat) := by
  obtain ⟨m, rfl⟩ := Int.eq_ofNat_of_zero_le (show 0 ≤ n by omega)
  unfold word_Low.f
  rw [if_neg (by omega), if_neg (by omega), w64 (by omega) (by omega), if_pos (by omega), Int.toNat_natCast]
  unfold shl shr
  rw [show ((64 : Int) - m).toNat = 64 - m from by omega, show min (64 - m) IntKind.i64.bits = 64 - m from Nat.min_eq_left (by simp only [IntKind.bits]; omega), wi64, lowZ_shl x m (by omega) (by omega), Int.mul_ediv_cancel _ (by have := two_pos (64 - m); omega)]
theorem word_Low_64 (x n : Int) (h : 64 ≤ n) : word_Low.f x n = some x := by
  unfold word_Low.f; rw [if_neg (by omega), if_pos (by omega)]
theorem word_Low_0 (x n : Int) (h : n < 1) : word_Low.f x n = some 0 := by
  unfold word_Low.f; rw [if_pos (by omega)]
theorem mod_two_pow_succ (u : Int) (i : Nat) : u % 2 ^ (i + 1) = u % 2 ^ i + 2 ^ i * (u / 2 ^ i % 2) := by
  have h1 := Int.emod_add_mul_ediv u (2 ^ (i + 1))
  have h2 := Int.emod_add_mul_ediv u (2 ^ i)
  have h3 := Int.emod_add_mul_ediv (u / 2 ^ i) 2
  have h4 : u / 2 ^ (i + 1) = u / 2 ^ i / 2 := by rw [Int.pow_succ, ← Int.ediv_ediv_of_nonneg (Int.le_of_lt (two_pos i))]
  have h5 : (2 : Int) ^ (i + 1) = 2 ^ i * 2 := Int.pow_succ ..
  have h6 : u = u % 2 ^ i + 2 ^ i * (u / 2 ^ i % 2) + 2 ^ i * (2 * (u / 2 ^ i / 2)) := by
    rw [Int.add_assoc, ← Int.mul_add, h3, h2]
  rw [h4, h5, Int.mul_assoc] at h1
  rw [h5]
  omega
theorem r01_Low_l0 (d : Nat) : ∀ (n : Nat) (u : Int) (i : Nat), 1 ≤ n → n ≤ 63 → 0 ≤ u → u < 18446744073709551616 → n - 1 - i = d → i + 1 ≤ n →
    Ev (fun k => inquestref01_Low.l0 k n (u % 2 ^ i) (2 ^ i) (u / 2 ^ i) i) (lowZ u n) := by
  induction d with
  | zero =>
    intro n u i h1 h63 h0 hu hd hi
    obtain rfl : n = i + 1 := by omega
    have hp := two_le i 62 (by omega)
    have hq := two_pos i
    have m0 := Int.emod_nonneg u (show (2 : Int) ^ i ≠ 0 by omega)
    have m1 := Int.emod_lt_of_pos u hq
    have dd : 0 ≤ u / 2 ^ i := Int.ediv_nonneg h0 (by omega)
    have key := mod_two_pow_succ u i
    have e5 : (2 : Int) ^ (i + 1) = 2 * 2 ^ i := by rw [Int.pow_succ]; omega
    have low : ∀ b, u / 2 ^ i % 2 = b → lowZ u (i + 1) = u % 2 ^ i - 2 ^ i * b := by
      intro b hb
      unfold lowZ
      have e1 : (u + 2 ^ i) % 2 ^ (i + 1) = (u % 2 ^ (i + 1) + 2 ^ i) % 2 ^ (i + 1) := by rw [Int.emod_add_emod]
      rw [show i + 1 - 1 = i from by omega, e1, key, hb]
      have hb' : b = 0 ∨ b = 1 := by omega
      rcases hb' with rfl | rfl
      · rw [Int.mul_zero, Int.add_zero, Int.emod_eq_of_lt (by omega) (by omega)]; omega
      · rw [Int.mul_one, show u % 2 ^ i + 2 ^ i + 2 ^ i = u % 2 ^ i + 2 ^ (i + 1) from by omega, Int.add_emod_right, Int.emod_eq_of_lt (by omega) (by omega)]
    refine ⟨2, fun k hk => ?_⟩
    obtain ⟨k, rfl⟩ : ∃ j, k = j + 1 + 1 := ⟨k - 2, by omega⟩
    simp only [inquestref01_Low.l0]
    rw [if_pos (by omega), Int.tmod_eq_emod_of_nonneg dd, w64 (i := ((i + 1 : Nat) : Int) - 1) (by omega) (by omega), w64 (i := (i : Int) + 1) (by omega) (by omega)]
    by_cases c : u / 2 ^ i % 2 = 1
    · rw [if_pos c, if_pos (by omega), if_neg (by omega), w64 (i := u % 2 ^ i - 2 ^ i) (by omega) (by omega), if_neg (by omega), low 1 c, Int.mul_one]
    · rw [if_neg c, if_neg (by omega), if_neg (by omega), low 0 (by omega)]; simp
  | succ d ih =>
    intro n u i h1 h63 h0 hu hd hi
    have hp := two_le i 61 (by omega)
    have hq := two_pos i
    have m0 := Int.emod_nonneg u (show (2 : Int) ^ i ≠ 0 by omega)
    have m1 := Int.emod_lt_of_pos u hq
    have dd : 0 ≤ u / 2 ^ i := Int.ediv_nonneg h0 (by omega)
    have d2 : u / 2 ^ i ≤ u := Int.ediv_le_self _ h0
    have key := mod_two_pow_succ u i
    have e5 : (2 : Int) ^ (i + 1) = 2 * 2 ^ i := by rw [Int.pow_succ]; omega
    have e4 : u / 2 ^ (i + 1) = u / 2 ^ i / 2 := by rw [Int.pow_succ, ← Int.ediv_ediv_of_nonneg (Int.le_of_lt (two_pos i))]
    refine Ev.step (fun k => ?_) (ih n u (i + 1) h1 h63 h0 hu (by omega) (by omega))
    simp only [inquestref01_Low.l0]
    rw [if_pos (by omega), Int.tmod_eq_emod_of_nonneg dd, w64 (i := (n : Int) - 1) (by omega) (by omega), w64 (i := (i : Int) + 1) (by omega) (by omega), if_neg (show ¬ ((i : Int) = (n : Int) - 1) by omega), if_pos (show (i : Int) + 1 < n by omega), if_pos (show (i : Int) + 1 < n by omega), w64 (i := u % 2 ^ i + 2 ^ i) (by omega) (by omega), w64 (i := 2 * 2 ^ i) (by omega) (by omega), Int.tdiv_eq_ediv_of_nonneg dd, wu64, Int.emod_eq_of_lt (b := 18446744073709551616) (by omega) (by omega), key, e4, e5]
    by_cases c : u / 2 ^ i % 2 = 1
    · rw [if_pos c, c, Int.mul_one]; rfl
    · rw [if_neg c, show u / 2 ^ i % 2 = 0 from by omega, Int.mul_zero, Int.add_zero]; rfl
theorem lowZ_mod (x : Int) (n : Nat) (h : n ≤ 64) : lowZ (x % 18446744073709551616) n = lowZ x n := by
  unfold lowZ
  congr 1
  have : (2 : Int) ^ n ∣ 18446744073709551616 := ⟨2 ^ (64 - n), by rw [← Int.pow_add, show n + (64 - n) = 64 from by omega]; decide⟩
  rw [Int.add_emod, Int.emod_emod_of_dvd _ this, ← Int.add_emod]
theorem r01_Low_ev (x n : Int) (h : 1 ≤ n) (h' : n ≤ 63) : Ev (fun k => inquestref01_Low.f k x n) (lowZ x n.toNat) := by
  obtain ⟨m, rfl⟩ := Int.eq_ofNat_of_zero_le (show 0 ≤ n by omega)
  have e := r01_Low_l0 (m - 1) m (x % 18446744073709551616) 0 (by omega) (by omega) (by omega) (by omega) (by omega) (by omega)
  rw [lowZ_mod _ _ (by omega)] at e
  refine Ev.congr (fun k => ?_) e
  unfold inquestref01_Low.f
  rw [if_neg (by omega), if_neg (by omega), wu64]
  simp
theorem r01_Low_64 (x n : Int) (h : 64 ≤ n) : Ev (fun k => inquestref01_Low.f k x n) x := by
  refine Ev.congr (fun k => ?_) (Ev.now x)
  unfold inquestref01_Low.f; rw [if_neg (by omega), if_pos (by omega)]
theorem r01_Low_0 (x n : Int) (h : n < 1) : Ev (fun k => inquestref01_Low.f k x n) 0 := by
  refine Ev.congr (fun k => ?_) (Ev.now 0)
  unfold inquestref01_Low.f; rw [if_pos (by omega)]
theorem rot_one (x : Int) (h : 0 ≤ x) (h' : x < 4294967296) : rot x 1 = x / 2 + (if x % 2 = 1 then 2147483648 else 0) := by
  obtain ⟨y, rfl⟩ := Int.eq_ofNat_of_zero_le h
  unfold rot
  rw [BitVec.rotateRight_def, BitVec.toNat_or, BitVec.toNat_ushiftRight, BitVec.toNat_shiftLeft, BitVec.toNat_ofInt, show ((y : Int) % ((2 ^ 32 : Nat) : Int)).toNat = y from by omega, Nat.or_comm, Nat.shiftRight_eq_div_pow, Nat.shiftLeft_eq, show 1 % 32 = 1 from rfl, show 32 - 1 = 31 from rfl, show y * 2 ^ 31 % 2 ^ 32 = 2 ^ 31 * (y % 2) from by omega, ← Nat.two_pow_add_eq_or_of_lt (by omega)]
  split <;> omega
theorem r01_Turn_l0 (d : Nat) : ∀ (x : Int) (n i : Nat), 0 ≤ x → x < 4294967296 → n < 32 → n - i = d → i ≤ n → Ev (fun k => inquestref01_Turn.l0 k x n i) (rot x d) := by
  induction d with
  | zero =>
    intro x n i h h' hn hd hi
    refine ⟨1, fun k hk => ?_⟩
    obtain ⟨k, rfl⟩ : ∃ j, k = j + 1 := ⟨k - 1, by omega⟩
    simp only [inquestref01_Turn.l0]; rw [if_neg (by omega), rot_zero x h h']
  | succ d ih =>
    intro x n i h h' hn hd hi
    have e := ih (rot x 1) n (i + 1) (rot_lt _ _).1 (rot_lt _ _).2 hn (by omega) (by omega)
    rw [rot_rot x 1 d (d + 1) (by omega), rot_one x h h'] at e
    refine Ev.step (fun k => ?_) e
    simp only [inquestref01_Turn.l0]
    rw [if_pos (by omega), Int.tmod_eq_emod_of_nonneg h, Int.tdiv_eq_ediv_of_nonneg h, w64 (by omega) (by omega)]
    by_cases c : x % 2 = 1
    · rw [if_pos c, if_pos c, Int.emod_eq_of_lt (b := 4294967296) (by omega) (by omega), Int.emod_eq_of_lt (by omega) (by omega)]; rfl
    · rw [if_neg c, if_neg c, Int.emod_eq_of_lt (by omega) (by omega), Int.add_zero]; rfl
theorem r01_Turn_ev (x n : Int) (h : 0 ≤ x) (h' : x < 4294967296) : Ev (fun k => inquestref01_Turn.f k x n) (rot x (n % 32).toNat) := by
  have b := Int.tmod_lt_of_pos n (show (0 : Int) < 32 by decide)
  have e : Int.tmod (wrap64 (Int.tmod n 32 + 32)) 32 = n % 32 := by
    have h1 : -32 < Int.tmod n 32 := by
      have := Int.lt_tmod_of_pos n (show (0 : Int) < 32 by decide); omega
    have h2 : Int.tmod n 32 % 32 = n % 32 := by
      rw [Int.tmod_eq_emod]; split <;> omega
    rw [w64 (by omega) (by omega), Int.tmod_eq_emod_of_nonneg (by omega)]; omega
  obtain ⟨m, hm⟩ := Int.eq_ofNat_of_zero_le (show 0 ≤ n % 32 by omega)
  have g := r01_Turn_l0 m x m 0 h h' (by omega) (by omega) (by omega)
  rw [hm, Int.toNat_natCast]
  refine Ev.congr (fun k => ?_) g
  unfold inquestref01_Turn.f
  rw [e, hm]; rfl
theorem WordTurns : inquestlaw01_WordTurns.Pure := by
  intro x y n hx hy hn
  obtain ⟨x0, x1⟩ := wf_u32 hx
  refine Ev.rounds ?_
  have main : ∀ r, word_Low.f y n = some r → Ev (fun k => inquestref01_Low.f k y n) r → Ev (fun k => inquestlaw01_WordTurns.f k x y n) true := by
    intro r h1 h2
    unfold inquestlaw01_WordTurns.f
    rw [word_Turn_is x n x0 x1, h1]
    simp only [Option.bind_some]
    refine Ev.bind (f := fun k t => if rot x (n % 32).toNat = t then ((inquestref01_Low.f k y n).bind fun s => if r = s then (inquestlaw01_lives.f k).bind fun q => some q else some false) else some false) (r01_Turn_ev x n x0 x1) ?_
    refine Ev.congr (fun k => if_pos rfl) ?_
    refine Ev.bind (f := fun k s => if r = s then (inquestlaw01_lives.f k).bind fun q => some q else some false) h2 ?_
    exact Ev.congr (fun k => if_pos rfl) (Ev.bind lives01 (Ev.now _))
  by_cases c : n < 1
  · exact main 0 (word_Low_0 y n c) (r01_Low_0 y n c)
  · by_cases d : 64 ≤ n
    · exact main y (word_Low_64 y n d) (r01_Low_64 y n d)
    · exact main _ (word_Low_is y n (by omega) (by omega)) (r01_Low_ev y n (by omega) (by omega))

end Go.Proofs.Ytidplimfeelonaa.Pure
