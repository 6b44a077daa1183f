/- The law WordSigned answers true at every input: the lowest bits with their sign are a number of so many bits, and the same bits. No condition. -/
import Derived.Test.YtidplimfeelonaaPWordSignedx1
namespace Go.Proofs.Ytidplimfeelonaa.Pure
open Go.RowKit Go.Proofs.Ytidplimfeelonaa.PWordSigned Go.Proofs.YtidplimfeelonaaW.PrintWords Go.Proofs.YtidplimfeelonaaW.PrintLast Go.Proofs.YtidplimfeelonaaW.PrintMore
theorem w64 {i : Int} (h : -9223372036854775808 ≤ i) (h' : i ≤ 9223372036854775807) : wrap64 i = i := by unfold wrap64; omega
theorem wf_u64 {a : Int} (h : (Lit.int .u64 a).wf = true) : 0 ≤ a ∧ a < 18446744073709551616 := by
  simp [Lit.wf, IntKind.min, IntKind.max, IntKind.signed, IntKind.bits] at h; omega
theorem wf_i64 {a : Int} (h : (Lit.int .i64 a).wf = true) : -9223372036854775808 ≤ a ∧ a ≤ 9223372036854775807 := by
  simp [Lit.wf, IntKind.min, IntKind.max, IntKind.signed, IntKind.bits] at h; omega
theorem wf_u32 {a : Int} (h : (Lit.int .u32 a).wf = true) : 0 ≤ a ∧ a < 4294967296 := by
  simp [Lit.wf, IntKind.min, IntKind.max, IntKind.signed, IntKind.bits] at h; omega
theorem wu64 (n : Int) : IntKind.u64.wrap n = n % 18446744073709551616 := by simp [IntKind.wrap, IntKind.bits, IntKind.signed]
theorem wu32 (n : Int) : IntKind.u32.wrap n = n % 4294967296 := by simp [IntKind.wrap, IntKind.bits, IntKind.signed]
theorem wi64 (n : Int) : IntKind.i64.wrap n = wrap64 n := by
  simp [IntKind.wrap, IntKind.bits, IntKind.signed, wrap64]; split <;> omega
theorem bx_u64 (x y : Int) : Go.bits .xor .u64 x y = IntKind.u64.wrap ((BitVec.ofInt 64 x ^^^ BitVec.ofInt 64 y).toNat : Int) := rfl
theorem bx_i64 (x y : Int) : Go.bits .xor .i64 x y = IntKind.i64.wrap ((BitVec.ofInt 64 x ^^^ BitVec.ofInt 64 y).toNat : Int) := rfl
theorem ba_u64 (x y : Int) : Go.bits .and .u64 x y = IntKind.u64.wrap ((BitVec.ofInt 64 x &&& BitVec.ofInt 64 y).toNat : Int) := rfl
theorem bo_u64 (x y : Int) : Go.bits .or .u64 x y = IntKind.u64.wrap ((BitVec.ofInt 64 x ||| BitVec.ofInt 64 y).toNat : Int) := rfl
theorem bx_u32 (x y : Int) : Go.bits .xor .u32 x y = IntKind.u32.wrap ((BitVec.ofInt 32 x ^^^ BitVec.ofInt 32 y).toNat : Int) := rfl
theorem ba_u32 (x y : Int) : Go.bits .and .u32 x y = IntKind.u32.wrap ((BitVec.ofInt 32 x &&& BitVec.ofInt 32 y).toNat : Int) := rfl
theorem bo_u32 (x y : Int) : Go.bits .or .u32 x y = IntKind.u32.wrap ((BitVec.ofInt 32 x ||| BitVec.ofInt 32 y).toNat : Int) := rfl
theorem bo_u8 (x y : Int) : Go.bits .or .u8 x y = IntKind.u8.wrap ((BitVec.ofInt 8 x ||| BitVec.ofInt 8 y).toNat : Int) := rfl
theorem ba_u8 (x y : Int) : Go.bits .and .u8 x y = IntKind.u8.wrap ((BitVec.ofInt 8 x &&& BitVec.ofInt 8 y).toNat : Int) := rfl
/-- The bytes of a number, the highest first. -/
def putL (x : Int) : Nat → List Int
  | 0 => []
  | n + 1 => putL (x / 256) n ++ [x % 256]
theorem putL_length (x : Int) (n : Nat) : (putL x n).length = n := by
  induction n generalizing x with
  | zero => rfl
  | succ n ih => simp [putL, ih]
theorem word_Put_l0 (m : Nat) : ∀ (x : Int) (xs : List Int), m ≤ xs.length → xs.length ≤ 8 → Ev (fun k => word_Put.l0 k x xs ((m : Int) - 1)) (putL x m ++ xs.drop m) := by
  induction m with
  | zero =>
    intro x xs _ _
    refine ⟨1, fun k hk => ?_⟩
    obtain ⟨k, rfl⟩ : ∃ j, k = j + 1 := ⟨k - 1, by omega⟩
    simp only [word_Put.l0]; rw [if_neg (by omega)]; simp [putL]
  | succ m ih =>
    intro x xs hm hl
    refine Ev.step (f := fun k => word_Put.l0 k (x / 256) (xs.set m (x % 256)) ((m : Int) - 1)) (fun k => ?_) ?_
    · simp only [word_Put.l0]
      rw [if_pos (by omega), if_pos (by omega), if_pos (by omega), w64 (by omega) (by omega)]
      rw [show ((m + 1 : Nat) : Int) - 1 = (m : Int) from by omega, Int.toNat_natCast]
    · have h := ih (x / 256) (xs.set m (x % 256)) (by simp; omega) (by simp; omega)
      have e : putL (x / 256) m ++ (xs.set m (x % 256)).drop m = putL x (m + 1) ++ xs.drop (m + 1) := by
        rw [List.drop_eq_getElem_cons (by simp; omega)]
        simp only [putL, List.getElem_set_self, List.append_assoc, List.cons_append, List.nil_append]
        congr 2
        rw [List.drop_set_of_lt (by omega)]
      rw [e] at h; exact h
/-- What word.Put answers. -/
theorem word_Put_ev (x n : Int) (h1 : 1 ≤ n) (h8 : n ≤ 8) : Ev (fun k => word_Put.f k x n) (putL x n.toNat) := by
  obtain ⟨m, rfl⟩ := Int.eq_ofNat_of_zero_le (show 0 ≤ n by omega)
  refine Ev.step (f := fun k => word_Put.l0 k x (List.replicate m 0) ((m : Int) - 1)) (fun k => ?_) ?_
  · unfold word_Put.f
    rw [if_neg (by omega), show decide ((m : Int) > 8) = false from decide_eq_false (by omega)]
    simp only [word_Put.j0]
    rw [if_neg (by simp), if_pos (by omega), if_pos (by omega), w64 (by omega) (by omega), Int.toNat_natCast]
  · have h := word_Put_l0 m x (List.replicate m 0) (by simp) (by simp; omega)
    simpa using h
theorem word_Put_none (x n : Int) (h : n < 1 ∨ 8 < n) : Ev (fun k => word_Put.f k x n) [] := by
  refine ⟨1, fun k hk => ?_⟩
  obtain ⟨k, rfl⟩ : ∃ j, k = j + 1 := ⟨k - 1, by omega⟩
  show word_Put.f (k + 1) x n = _
  unfold word_Put.f
  by_cases h1 : n < 1
  · rw [if_pos h1]; simp [word_Put.j0]
  · rw [if_neg h1, show decide (n > 8) = true from decide_eq_true (by omega)]; simp [word_Put.j0]
theorem lives01 : Ev (fun k => inquestlaw01_lives.f k) true := by
  refine Ev.bind (f := fun _ (t105 : List Int) => (if (t105.length : Int) = 1 then ((word_Zig.f 1).bind fun t108 => (some (t108 == 2))) else (some false))) (word_Put_ev 1 1 (by omega) (by omega)) (Ev.congr (fun _ => (by decide +kernel : _ = some true)) (Ev.now true))
/-- The lowest n bits, the highest of them counting below 0. -/
def lowZ (x : Int) (n : Nat) : Int := (x + 2 ^ (n - 1)) % 2 ^ n - 2 ^ (n - 1)
theorem two_split (n : Nat) (h : 1 ≤ n) : (2 : Int) ^ n = 2 * 2 ^ (n - 1) := by
  obtain ⟨m, rfl⟩ : ∃ m, n = m + 1 := ⟨n - 1, by omega⟩
  rw [Int.pow_succ]; simp; omega
theorem two_pos (n : Nat) : (0 : Int) < 2 ^ n := Int.pow_pos (by decide)
theorem two_le (a b : Nat) (h : a ≤ b) : (2 : Int) ^ a ≤ 2 ^ b := by
  have := Nat.pow_le_pow_right (show 2 > 0 by decide) h
  exact_mod_cast this
theorem mul_mod_r (a b c : Int) (h : 0 < c) : a * c % (b * c) = a % b * c := by
  rw [Int.mul_comm a, Int.mul_comm b, Int.mul_emod_mul_of_pos _ _ h, Int.mul_comm]
theorem lowZ_bd (x : Int) (n : Nat) (h : 1 ≤ n) : -(2 ^ (n - 1)) ≤ lowZ x n ∧ lowZ x n < 2 ^ (n - 1) := by
  unfold lowZ
  have := two_split n h; have := two_pos n
  have := Int.emod_nonneg (x + 2 ^ (n - 1)) (show (2 : Int) ^ n ≠ 0 by omega)
  have := Int.emod_lt_of_pos (x + 2 ^ (n - 1)) (two_pos n)
  omega
theorem lowZ_self (y : Int) (n : Nat) (h : 1 ≤ n) (h0 : -(2 ^ (n - 1)) ≤ y) (h1 : y < 2 ^ (n - 1)) : lowZ y n = y := by
  unfold lowZ
  have := two_split n h
  rw [Int.emod_eq_of_lt (by omega) (by omega)]; omega
theorem lowZ_shl (x : Int) (n : Nat) (h : 1 ≤ n) (h' : n ≤ 63) : wrap64 (x * 2 ^ (64 - n)) = lowZ x n * 2 ^ (64 - n) := by
  have e1 : (9223372036854775808 : Int) = 2 ^ (n - 1) * 2 ^ (64 - n) := by rw [← Int.pow_add, show n - 1 + (64 - n) = 63 from by omega]; decide
  have e2 : (18446744073709551616 : Int) = 2 ^ n * 2 ^ (64 - n) := by rw [← Int.pow_add, show n + (64 - n) = 64 from by omega]; decide
  unfold wrap64 lowZ
  rw [e1, e2, ← Int.add_mul, mul_mod_r _ _ _ (two_pos _), ← Int.sub_mul]
theorem word_Low_is (x n : Int) (h : 1 ≤ n) (h' : n ≤ 63) : word_Low.f x n = some (lowZ x n.toNat) := by
  obtain ⟨m, rfl⟩ := Int.eq_ofNat_of_zero_le (show 0 ≤ n by omega)
  unfold word_Low.f
  rw [if_neg (by omega), if_neg (by omega), w64 (by omega) (by omega), if_pos (by omega), Int.toNat_natCast]
  unfold shl shr
  rw [show ((64 : Int) - m).toNat = 64 - m from by omega, show min (64 - m) IntKind.i64.bits = 64 - m from Nat.min_eq_left (by simp only [IntKind.bits]; omega), wi64, lowZ_shl x m (by omega) (by omega), Int.mul_ediv_cancel _ (by have := two_pos (64 - m); omega)]
theorem word_Low_64 (x n : Int) (h : 64 ≤ n) : word_Low.f x n = some x := by
  unfold word_Low.f; rw [if_neg (by omega), if_pos (by omega)]
theorem word_Low_0 (x n : Int) (h : n < 1) : word_Low.f x n = some 0 := by
  unfold word_Low.f; rw [if_pos (by omega)]
theorem least01 (a lo hi : Int) (h : lo ≤ hi) : ∃ r, inquestref01_Least.f a lo hi = some r ∧ lo ≤ r ∧ r ≤ hi := by
  unfold inquestref01_Least.f
  by_cases c : a < lo
  · exact ⟨lo, by rw [if_pos c], by omega, by omega⟩
  · rw [if_neg c]
    by_cases d : a > hi
    · exact ⟨hi, by rw [if_pos d], by omega, by omega⟩
    · exact ⟨a, by rw [if_neg d], by omega, by omega⟩
theorem WordSigned : inquestlaw01_WordSigned.Pure := by
  intro x n hx hn
  obtain ⟨x0, x1⟩ := wf_i64 hx
  obtain ⟨n, hn, n0, n1⟩ := least01 n 1 63 (by omega)
  obtain ⟨m, rfl⟩ := Int.eq_ofNat_of_zero_le (show 0 ≤ n by omega)
  have hp := two_le (m - 1) 62 (by omega)
  have hq := two_pos (m - 1)
  obtain ⟨b0, b1⟩ := lowZ_bd x m (by omega)
  refine Ev.rounds ?_
  refine Ev.step (f := fun k => (inquestlaw01_lives.f k).bind fun t120 => some t120) (fun k => ?_) (Ev.bind lives01 (Ev.now _))
  unfold inquestlaw01_WordSigned.f
  rw [hn]
  simp only [Option.bind_some, word_Low_is x m n0 n1, Int.toNat_natCast]
  have e : shl .i64 1 (IntKind.u64.wrap (wrap64 ((m : Int) - 1))) = 2 ^ (m - 1) := by
    unfold shl
    rw [w64 (by omega) (by omega), wu64, show ((m : Int) - 1) % 18446744073709551616 = ((m - 1 : Nat) : Int) from by omega, Int.toNat_natCast, show min (m - 1) IntKind.i64.bits = m - 1 from Nat.min_eq_left (by simp only [IntKind.bits]; omega), Int.one_mul, wi64, w64 (by omega) (by omega)]
  rw [e, if_pos (by rw [wu64]; omega), w64 (i := -(2 ^ (m - 1))) (by omega) (by omega), w64 (i := 2 ^ (m - 1) - 1) (by omega) (by omega), if_neg (by omega), if_neg (by omega), if_pos (by rw [wu64]; omega)]
  have e2 (z : Int) : shl .u64 (IntKind.u64.wrap z) (IntKind.u64.wrap (wrap64 (64 - (m : Int)))) = z % 2 ^ m * 2 ^ (64 - m) := by
    unfold shl
    rw [w64 (by omega) (by omega), wu64 (64 - (m : Int)), show (64 - (m : Int)) % 18446744073709551616 = ((64 - m : Nat) : Int) from by omega, Int.toNat_natCast, show min (64 - m) IntKind.u64.bits = 64 - m from Nat.min_eq_left (by simp only [IntKind.bits]; omega), wu64, wu64]
    have e2 : (18446744073709551616 : Int) = 2 ^ m * 2 ^ (64 - m) := by rw [← Int.pow_add, show m + (64 - m) = 64 from by omega]; decide
    rw [e2, mul_mod_r _ _ _ (two_pos _), Int.emod_emod_of_dvd _ ⟨_, rfl⟩]
  have e3 : lowZ x m % 2 ^ m = x % 2 ^ m := by
    unfold lowZ
    rw [Int.emod_sub_emod]; congr 1; omega
  rw [e2, e2, e3]
  simp only [bne_self_eq_false, inquestlaw01_WordSigned.j0]
  rw [if_neg (by simp), word_Low_is _ _ n0 n1, Int.toNat_natCast, lowZ_self _ m (by omega) (by omega) (by omega), word_Low_64 x 64 (by omega), word_Low_0 x 0 (by omega)]
  simp only [Option.bind_some, if_true]

end Go.Proofs.Ytidplimfeelonaa.Pure
