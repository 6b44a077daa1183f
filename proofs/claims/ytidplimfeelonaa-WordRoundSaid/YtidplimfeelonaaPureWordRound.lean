/- The law WordRound answers true at every input: turning by a, then by b, is turning by both, and no bit is lost. No condition. -/
import Derived.Test.YtidplimfeelonaaPWordRoundx1
namespace Go.Proofs.Ytidplimfeelonaa.Pure
open Go.RowKit Go.Proofs.Ytidplimfeelonaa.PWordRound Go.Proofs.YtidplimfeelonaaW.PrintWords Go.Proofs.YtidplimfeelonaaW.PrintLast Go.Proofs.YtidplimfeelonaaW.PrintMore
theorem w64 {i : Int} (h : -9223372036854775808 ≤ i) (h' : i ≤ 9223372036854775807) : wrap64 i = i := by unfold wrap64; omega
theorem wf_u64 {a : Int} (h : (Lit.int .u64 a).wf = true) : 0 ≤ a ∧ a < 18446744073709551616 := by
  simp [Lit.wf, IntKind.min, IntKind.max, IntKind.signed, IntKind.bits] at h; omega
theorem wf_i64 {a : Int} (h : (Lit.int .i64 a).wf = true) : -9223372036854775808 ≤ a ∧ a ≤ 9223372036854775807 := by
  simp [Lit.wf, IntKind.min, IntKind.max, IntKind.signed, IntKind.bits] at h; omega
theorem wf_u32 {a : Int} (h : (Lit.int .u32 a).wf = true) : 0 ≤ a ∧ a < 4294967296 := by
  simp [Lit.wf, IntKind.min, IntKind.max, IntKind.signed, IntKind.bits] at h; omega
theorem wu64 (n : Int) : IntKind.u64.wrap n = n % 18446744073709551616 := by simp [IntKind.wrap, IntKind.bits, IntKind.signed]
theorem wu32 (n : Int) : IntKind.u32.wrap n = n % 4294967296 := by simp [IntKind.wrap, IntKind.bits, IntKind.signed]
theorem wi64 (n : Int) : IntKind.i64.wrap n = wrap64 n := by
  simp [IntKind.wrap, IntKind.bits, IntKind.signed, wrap64]; split <;> omega
theorem bx_u64 (x y : Int) : Go.bits .xor .u64 x y = IntKind.u64.wrap ((BitVec.ofInt 64 x ^^^ BitVec.ofInt 64 y).toNat : Int) := rfl
theorem bx_i64 (x y : Int) : Go.bits .xor .i64 x y = IntKind.i64.wrap ((BitVec.ofInt 64 x ^^^ BitVec.ofInt 64 y).toNat : Int) := rfl
theorem ba_u64 (x y : Int) : Go.bits .and .u64 x y = IntKind.u64.wrap ((BitVec.ofInt 64 x &&& BitVec.ofInt 64 y).toNat : Int) := rfl
theorem bo_u64 (x y : Int) : Go.bits .or .u64 x y = IntKind.u64.wrap ((BitVec.ofInt 64 x ||| BitVec.ofInt 64 y).toNat : Int) := rfl
theorem bx_u32 (x y : Int) : Go.bits .xor .u32 x y = IntKind.u32.wrap ((BitVec.ofInt 32 x ^^^ BitVec.ofInt 32 y).toNat : Int) := rfl
theorem ba_u32 (x y : Int) : Go.bits .and .u32 x y = IntKind.u32.wrap ((BitVec.ofInt 32 x &&& BitVec.ofInt 32 y).toNat : Int) := rfl
theorem bo_u32 (x y : Int) : Go.bits .or .u32 x y = IntKind.u32.wrap ((BitVec.ofInt 32 x ||| BitVec.ofInt 32 y).toNat : Int) := rfl
theorem bo_u8 (x y : Int) : Go.bits .or .u8 x y = IntKind.u8.wrap ((BitVec.ofInt 8 x ||| BitVec.ofInt 8 y).toNat : Int) := rfl
theorem ba_u8 (x y : Int) : Go.bits .and .u8 x y = IntKind.u8.wrap ((BitVec.ofInt 8 x &&& BitVec.ofInt 8 y).toNat : Int) := rfl
/-- The bytes of a number, the highest first. -/
def putL (x : Int) : Nat → List Int
  | 0 => []
  | n + 1 => putL (x / 256) n ++ [x % 256]
theorem putL_length (x : Int) (n : Nat) : (putL x n).length = n := by
  induction n generalizing x with
  | zero => rfl
  | succ n ih => simp [putL, ih]
theorem word_Put_l0 (m : Nat) : ∀ (x : Int) (xs : List Int), m ≤ xs.length → xs.length ≤ 8 → Ev (fun k => word_Put.l0 k x xs ((m : Int) - 1)) (putL x m ++ xs.drop m) := by
  induction m with
  | zero =>
    intro x xs _ _
    refine ⟨1, fun k hk => ?_⟩
    obtain ⟨k, rfl⟩ : ∃ j, k = j + 1 := ⟨k - 1, by omega⟩
    simp only [word_Put.l0]; rw [if_neg (by omega)]; simp [putL]
  | succ m ih =>
    intro x xs hm hl
    refine Ev.step (f := fun k => word_Put.l0 k (x / 256) (xs.set m (x % 256)) ((m : Int) - 1)) (fun k => ?_) ?_
    · simp only [word_Put.l0]
      rw [if_pos (by omega), if_pos (by omega), if_pos (by omega), w64 (by omega) (by omega)]
      rw [show ((m + 1 : Nat) : Int) - 1 = (m : Int) from by omega, Int.toNat_natCast]
    · have h := ih (x / 256) (xs.set m (x % 256)) (by simp; omega) (by simp; omega)
      have e : putL (x / 256) m ++ (xs.set m (x % 256)).drop m = putL x (m + 1) ++ xs.drop (m + 1) := by
        rw [List.drop_eq_getElem_cons (by simp; omega)]
        simp only [putL, List.getElem_set_self, List.append_assoc, List.cons_append, List.nil_append]
        congr 2
        rw [List.drop_set_of_lt (by omega)]
      rw [e] at h; exact h
/-- What word.Put answers. -/
theorem word_Put_ev (x n : Int) (h1 : 1 ≤ n) (h8 : n ≤ 8) : Ev (fun k => word_Put.f k x n) (putL x n.toNat) := by
  obtain ⟨m, rfl⟩ := Int.eq_ofNat_of_zero_le (show 0 ≤ n by omega)
  refine Ev.step (f := fun k => word_Put.l0 k x (List.replicate m 0) ((m : Int) - 1)) (fun k => ?_) ?_
  · unfold word_Put.f
    rw [if_neg (by omega), show decide ((m : Int) > 8) = false from decide_eq_false (by omega)]
    simp only [word_Put.j0]
    rw [if_neg (by simp), if_pos (by omega), if_pos (by omega), w64 (by omega) (by omega), Int.toNat_natCast]
  · have h := word_Put_l0 m x (List.replicate m 0) (by simp) (by simp; omega)
    simpa using h
theorem word_Put_none (x n : Int) (h : n < 1 ∨ 8 < n) : Ev (fun k => word_Put.f k x n) [] := by
  refine ⟨1, fun k hk => ?_⟩
  obtain ⟨k, rfl⟩ : ∃ j, k = j + 1 := ⟨k - 1, by omega⟩
  show word_Put.f (k + 1) x n = _
  unfold word_Put.f
  by_cases h1 : n < 1
  · rw [if_pos h1]; simp [word_Put.j0]
  · rw [if_neg h1, show decide (n > 8) = true from decide_eq_true (by omega)]; simp [word_Put.j0]
theorem lives01 : Ev (fun k => inquestlaw01_lives.f k) true := by
  refine Ev.bind (f := fun _ (t105 : List Int) => (if (t105.length : Int) = 1 then ((word_Zig.f 1).bind fun t108 => (some (t108 == 2))) else (some false))) (word_Put_ev 1 1 (by omega) (by omega)) (Ev.congr (fun _ => (by decide +kernel : _ = some true)) (Ev.now true))
/-- 32 bits, turned. -/
def rot (x : Int) (c : Nat) : Int := (((BitVec.ofInt 32 x).rotateRight c).toNat : Int)
theorem rot_lt (x : Int) (c : Nat) : 0 ≤ rot x c ∧ rot x c < 4294967296 := by
  unfold rot; have := ((BitVec.ofInt 32 x).rotateRight c).isLt; omega
theorem ofInt_rot (x : Int) (c : Nat) : BitVec.ofInt 32 (rot x c) = (BitVec.ofInt 32 x).rotateRight c := by
  unfold rot; rw [BitVec.ofInt_natCast, BitVec.ofNat_toNat, BitVec.setWidth_eq]
theorem rot_bit (x : BitVec 32) (c i : Nat) (h : i < 32) : (x.rotateRight c).getLsbD i = x.getLsbD ((i + c) % 32) := by
  rw [BitVec.getLsbD_rotateRight]
  by_cases h1 : i < 32 - c % 32
  · simp only [h1, decide_true, cond_true]; congr 1; omega
  · simp only [h1, decide_false, cond_false, h, Bool.true_and, decide_true]; congr 1; omega
theorem rot_rot (x : Int) (a b c : Nat) (h : (a + b) % 32 = c % 32) : rot (rot x a) b = rot x c := by
  have e : (BitVec.ofInt 32 (rot x a)).rotateRight b = (BitVec.ofInt 32 x).rotateRight c := by
    rw [ofInt_rot]
    refine BitVec.eq_of_getLsbD_eq fun i hi => ?_
    rw [rot_bit _ _ _ hi, rot_bit _ _ _ (Nat.mod_lt _ (by decide)), rot_bit _ _ _ hi]
    congr 1; omega
  unfold rot at e ⊢; rw [e]
theorem rot_mod (x : Int) (a c : Nat) (h : a % 32 = c % 32) : rot x a = rot x c := by
  have e : (BitVec.ofInt 32 x).rotateRight a = (BitVec.ofInt 32 x).rotateRight c := by
    refine BitVec.eq_of_getLsbD_eq fun i hi => ?_
    rw [rot_bit _ _ _ hi, rot_bit _ _ _ hi]; congr 1; omega
  unfold rot; rw [e]
theorem rot_zero (x : Int) (h : 0 ≤ x) (h' : x < 4294967296) : rot x 0 = x := by
  have e : (BitVec.ofInt 32 x).rotateRight 0 = BitVec.ofInt 32 x := by
    refine BitVec.eq_of_getLsbD_eq fun i hi => ?_
    rw [rot_bit _ _ _ hi]; congr 1; omega
  unfold rot; rw [e, BitVec.toNat_ofInt]; omega
theorem rot_xor (x y : Int) (c : Nat) : rot (Go.bits .xor .u32 x y) c = Go.bits .xor .u32 (rot x c) (rot y c) := by
  have n (v : BitVec 32) : (IntKind.u32.wrap (v.toNat : Int)) = (v.toNat : Int) := by have := v.isLt; rw [wu32]; omega
  rw [bx_u32, bx_u32, n, n]
  have e : (BitVec.ofInt 32 ((BitVec.ofInt 32 x ^^^ BitVec.ofInt 32 y).toNat : Int)).rotateRight c = BitVec.ofInt 32 (rot x c) ^^^ BitVec.ofInt 32 (rot y c) := by
    rw [ofInt_rot, ofInt_rot, BitVec.ofInt_natCast, BitVec.ofNat_toNat, BitVec.setWidth_eq]
    refine BitVec.eq_of_getLsbD_eq fun i hi => ?_
    rw [rot_bit _ _ _ hi, BitVec.getLsbD_xor, BitVec.getLsbD_xor, rot_bit _ _ _ hi, rot_bit _ _ _ hi]
  show (((BitVec.ofInt 32 _).rotateRight c).toNat : Int) = _
  rw [e]
theorem and31 (n : Int) : Go.bits .and .u64 (IntKind.u64.wrap n) 31 = n % 32 := by
  rw [ba_u64, BitVec.toNat_and, show (BitVec.ofInt 64 31).toNat = 2 ^ 5 - 1 from by decide, Nat.and_two_pow_sub_one_eq_mod, BitVec.toNat_ofInt, wu64, wu64]; omega
theorem word_Turn_is (x n : Int) (h : 0 ≤ x) (h' : x < 4294967296) : word_Turn.f x n = some (rot x (n % 32).toNat) := by
  unfold word_Turn.f
  rw [and31, if_pos (by omega), wu64, if_pos (by omega)]
  congr 1
  obtain ⟨c, hc⟩ := Int.eq_ofNat_of_zero_le (show 0 ≤ n % 32 by omega)
  have hc' : c < 32 := by omega
  rw [hc, show (32 - (c : Int)) % 18446744073709551616 = ((32 - c : Nat) : Int) from by omega]
  unfold shr shl rot
  rw [Int.toNat_natCast, Int.toNat_natCast, show min c IntKind.u32.bits = c from Nat.min_eq_left (by simp only [IntKind.bits]; omega), show min (32 - c) IntKind.u32.bits = 32 - c from Nat.min_eq_left (by simp only [IntKind.bits]; omega)]
  obtain ⟨y, rfl⟩ := Int.eq_ofNat_of_zero_le h
  rw [bo_u32, wu32, wu32, BitVec.rotateRight_def, Nat.mod_eq_of_lt hc', BitVec.toNat_or, BitVec.toNat_or, BitVec.toNat_ushiftRight, BitVec.toNat_shiftLeft, BitVec.toNat_ofInt, BitVec.toNat_ofInt, BitVec.toNat_ofInt]
  have e1 : ((y : Int) / 2 ^ c % ((2 ^ 32 : Nat) : Int)).toNat = y >>> c := by
    rw [Nat.shiftRight_eq_div_pow, show (2 : Int) ^ c = ((2 ^ c : Nat) : Int) from by simp, ← Int.natCast_ediv, ← Int.natCast_emod, Int.toNat_natCast]
    exact Nat.mod_eq_of_lt (Nat.lt_of_le_of_lt (Nat.div_le_self _ _) (by omega))
  have e2 : ((y : Int) * 2 ^ (32 - c) % 4294967296 % ((2 ^ 32 : Nat) : Int)).toNat = y <<< (32 - c) % 2 ^ 32 := by
    rw [Nat.shiftLeft_eq, show (2 : Int) ^ (32 - c) = ((2 ^ (32 - c) : Nat) : Int) from by simp, ← Int.natCast_mul]; omega
  have e3 : ((y : Int) % ((2 ^ 32 : Nat) : Int)).toNat = y := by omega
  rw [e1, e2, e3]
  have : y >>> c ||| y <<< (32 - c) % 2 ^ 32 < 2 ^ 32 := Nat.or_lt_two_pow (Nat.lt_of_le_of_lt (by rw [Nat.shiftRight_eq_div_pow]; exact Nat.div_le_self _ _) (show y < 2 ^ 32 by omega)) (Nat.mod_lt _ (by decide))
  omega
theorem least01 (a lo hi : Int) (h : lo ≤ hi) : ∃ r, inquestref01_Least.f a lo hi = some r ∧ lo ≤ r ∧ r ≤ hi := by
  unfold inquestref01_Least.f
  by_cases c : a < lo
  · exact ⟨lo, by rw [if_pos c], by omega, by omega⟩
  · rw [if_neg c]
    by_cases d : a > hi
    · exact ⟨hi, by rw [if_pos d], by omega, by omega⟩
    · exact ⟨a, by rw [if_neg d], by omega, by omega⟩
theorem WordRound : inquestlaw01_WordRound.Pure := by
  intro x y a b hx hy _ _
  obtain ⟨x0, x1⟩ := wf_u32 hx
  obtain ⟨y0, y1⟩ := wf_u32 hy
  obtain ⟨a, ha, a0, a1⟩ := least01 a (-1000) 1000 (by omega)
  obtain ⟨b, hb, b0, b1⟩ := least01 b (-1000) 1000 (by omega)
  refine Ev.rounds ?_
  have tu (z n : Int) : word_Turn.f (rot z n.toNat) n = some (rot (rot z n.toNat) (n % 32).toNat) := word_Turn_is _ _ (rot_lt _ _).1 (rot_lt _ _).2
  have t (z : Int) (c : Nat) (n : Int) : word_Turn.f (rot z c) n = some (rot (rot z c) (n % 32).toNat) := word_Turn_is _ _ (rot_lt _ _).1 (rot_lt _ _).2
  have hz : 0 ≤ Go.bits .xor .u32 x y ∧ Go.bits .xor .u32 x y < 4294967296 := by rw [bx_u32, wu32]; omega
  refine Ev.step (f := fun k => (inquestlaw01_lives.f k).bind fun t120 => some t120) (fun k => ?_) (Ev.bind lives01 (Ev.now _))
  unfold inquestlaw01_WordRound.f
  rw [ha, hb]
  simp only [Option.bind_some, word_Turn_is x _ x0 x1, t]
  rw [w64 (i := a + b) (by omega) (by omega), w64 (i := -a) (by omega) (by omega),
    rot_rot x (a % 32).toNat (b % 32).toNat ((a + b) % 32).toNat (by omega), if_pos rfl,
    rot_mod x (32 % 32 : Int).toNat 0 (by decide), rot_zero x x0 x1, if_pos rfl,
    rot_rot x (a % 32).toNat (-a % 32).toNat 0 (by omega), rot_zero x x0 x1]
  simp only [inquestlaw01_WordRound.j0]
  rw [if_neg (by simp), word_Turn_is _ _ hz.1 hz.2, word_Turn_is x _ x0 x1, word_Turn_is y _ y0 y1]
  simp only [Option.bind_some]
  rw [rot_xor, if_pos rfl]

end Go.Proofs.Ytidplimfeelonaa.Pure
