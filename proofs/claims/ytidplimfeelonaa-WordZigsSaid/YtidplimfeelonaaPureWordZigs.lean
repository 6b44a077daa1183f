/- The law WordZigs answers true at every input: numbers are folded as the document says, and unfolded again. No condition. -/
import Derived.Test.YtidplimfeelonaaPWordZigsx1
namespace Go.Proofs.Ytidplimfeelonaa.Pure
open Go.RowKit Go.Proofs.Ytidplimfeelonaa.PWordZigs Go.Proofs.YtidplimfeelonaaW.PrintWords Go.Proofs.YtidplimfeelonaaW.PrintLast Go.Proofs.YtidplimfeelonaaW.PrintMore
theorem w64 {i : Int} (h : -9223372036854775808 ≤ i) (h' : i ≤ 9223372036854775807) : wrap64 i = i := by unfold wrap64; omega
theorem wf_u64 {a : Int} (h : (Lit.int .u64 a).wf = true) : 0 ≤ a ∧ a < 18446744073709551616 := by
  simp [Lit.wf, IntKind.min, IntKind.max, IntKind.signed, IntKind.bits] at h; omega
theorem wf_i64 {a : Int} (h : (Lit.int .i64 a).wf = true) : -9223372036854775808 ≤ a ∧ a ≤ 9223372036854775807 := by
  simp [Lit.wf, IntKind.min, IntKind.max, IntKind.signed, IntKind.bits] at h; omega
theorem wf_u32 {a : Int} (h : (Lit.int .u32 a).wf = true) : 0 ≤ a ∧ a < 4294967296 := by
  simp [Lit.wf, IntKind.min, IntKind.max, IntKind.signed, IntKind.bits] at h; omega
theorem wu64 (n : Int) : IntKind.u64.wrap n = n % 18446744073709551616 := by simp [IntKind.wrap, IntKind.bits, IntKind.signed]
theorem wu32 (n : Int) : IntKind.u32.wrap n = n % 4294967296 := by simp [IntKind.wrap, IntKind.bits, IntKind.signed]
theorem wi64 (n : Int) : IntKind.i64.wrap n = wrap64 n := by
  simp [IntKind.wrap, IntKind.bits, IntKind.signed, wrap64]; split <;> omega
theorem bx_u64 (x y : Int) : Go.bits .xor .u64 x y = IntKind.u64.wrap ((BitVec.ofInt 64 x ^^^ BitVec.ofInt 64 y).toNat : Int) := rfl
theorem bx_i64 (x y : Int) : Go.bits .xor .i64 x y = IntKind.i64.wrap ((BitVec.ofInt 64 x ^^^ BitVec.ofInt 64 y).toNat : Int) := rfl
theorem ba_u64 (x y : Int) : Go.bits .and .u64 x y = IntKind.u64.wrap ((BitVec.ofInt 64 x &&& BitVec.ofInt 64 y).toNat : Int) := rfl
theorem bo_u64 (x y : Int) : Go.bits .or .u64 x y = IntKind.u64.wrap ((BitVec.ofInt 64 x ||| BitVec.ofInt 64 y).toNat : Int) := rfl
theorem bx_u32 (x y : Int) : Go.bits .xor .u32 x y = IntKind.u32.wrap ((BitVec.ofInt 32 x ^^^ BitVec.ofInt 32 y).toNat : Int) := rfl
theorem ba_u32 (x y : Int) : Go.bits .and .u32 x y = IntKind.u32.wrap ((BitVec.ofInt 32 x &&& BitVec.ofInt 32 y).toNat : Int) := rfl
theorem bo_u32 (x y : Int) : Go.bits .or .u32 x y = IntKind.u32.wrap ((BitVec.ofInt 32 x ||| BitVec.ofInt 32 y).toNat : Int) := rfl
theorem bo_u8 (x y : Int) : Go.bits .or .u8 x y = IntKind.u8.wrap ((BitVec.ofInt 8 x ||| BitVec.ofInt 8 y).toNat : Int) := rfl
theorem ba_u8 (x y : Int) : Go.bits .and .u8 x y = IntKind.u8.wrap ((BitVec.ofInt 8 x &&& BitVec.ofInt 8 y).toNat : Int) := rfl
/-- The bytes of a number, the highest first. -/
def putL (x : Int) : Nat → List Int
  | 0 => []
  | n + 1 => putL (x / 256) n ++ [x % 256]
theorem putL_length (x : Int) (n : Nat) : (putL x n).length = n := by
  induction n generalizing x with
  | zero => rfl
  | succ n ih => simp [putL, ih]
theorem word_Put_l0 (m : Nat) : ∀ (x : Int) (xs : List Int), m ≤ xs.length → xs.length ≤ 8 → Ev (fun k => word_Put.l0 k x xs ((m : Int) - 1)) (putL x m ++ xs.drop m) := by
  induction m with
  | zero =>
    intro x xs _ _
    refine ⟨1, fun k hk => ?_⟩
    obtain ⟨k, rfl⟩ : ∃ j, k = j + 1 := ⟨k - 1, by omega⟩
    simp only [word_Put.l0]; rw [if_neg (by omega)]; simp [putL]
  | succ m ih =>
    intro x xs hm hl
    refine Ev.step (f := fun k => word_Put.l0 k (x / 256) (xs.set m (x % 256)) ((m : Int) - 1)) (fun k => ?_) ?_
    · simp only [word_Put.l0]
      rw [if_pos (by omega), if_pos (by omega), if_pos (by omega), w64 (by omega) (by omega)]
      rw [show ((m + 1 : Nat) : Int) - 1 = (m : Int) from by omega, Int.toNat_natCast]
    · have h := ih (x / 256) (xs.set m (x % 256)) (by simp; omega) (by simp; omega)
      have e : putL (x / 256) m ++ (xs.set m (x % 256)).drop m = putL x (m + 1) ++ xs.drop (m + 1) := by
        rw [List.drop_eq_getElem_cons (by simp; omega)]
        simp only [putL, List.getElem_set_self, List.append_assoc, List.cons_append, List.nil_append]
        congr 2
        rw [List.drop_set_of_lt (by omega)]
      rw [e] at h; exact h
/-- What word.Put answers. -/
theorem word_Put_ev (x n : Int) (h1 : 1 ≤ n) (h8 : n ≤ 8) : Ev (fun k => word_Put.f k x n) (putL x n.toNat) := by
  obtain ⟨m, rfl⟩ := Int.eq_ofNat_of_zero_le (show 0 ≤ n by omega)
  refine Ev.step (f := fun k => word_Put.l0 k x (List.replicate m 0) ((m : Int) - 1)) (fun k => ?_) ?_
  · unfold word_Put.f
    rw [if_neg (by omega), show decide ((m : Int) > 8) = false from decide_eq_false (by omega)]
    simp only [word_Put.j0]
    rw [if_neg (by simp), if_pos (by omega), if_pos (by omega), w64 (by omega) (by omega), Int.toNat_natCast]
  · have h := word_Put_l0 m x (List.replicate m 0) (by simp) (by simp; omega)
    simpa using h
theorem word_Put_none (x n : Int) (h : n < 1 ∨ 8 < n) : Ev (fun k => word_Put.f k x n) [] := by
  refine ⟨1, fun k hk => ?_⟩
  obtain ⟨k, rfl⟩ : ∃ j, k = j + 1 := ⟨k - 1, by omega⟩
  show word_Put.f (k + 1) x n = _
  unfold word_Put.f
  by_cases h1 : n < 1
  · rw [if_pos h1]; simp [word_Put.j0]
  · rw [if_neg h1, show decide (n > 8) = true from decide_eq_true (by omega)]; simp [word_Put.j0]
theorem lives01 : Ev (fun k => inquestlaw01_lives.f k) true := by
  refine Ev.bind (f := fun _ (t105 : List Int) => (if (t105.length : Int) = 1 then ((word_Zig.f 1).bind fun t108 => (some (t108 == 2))) else (some false))) (word_Put_ev 1 1 (by omega) (by omega)) (Ev.congr (fun _ => (by decide +kernel : _ = some true)) (Ev.now true))
theorem xor0 (x : Int) : Go.bits .xor .u64 x 0 = IntKind.u64.wrap x := by
  rw [bx_u64, show BitVec.ofInt 64 0 = 0#64 from rfl, BitVec.xor_zero, BitVec.toNat_ofInt, wu64, wu64]; omega
theorem xor0i (x : Int) : Go.bits .xor .i64 x 0 = wrap64 x := by
  rw [bx_i64, show BitVec.ofInt 64 0 = 0#64 from rfl, BitVec.xor_zero, BitVec.toNat_ofInt, wi64]; unfold wrap64; omega
theorem xor1 (x : Int) : Go.bits .xor .u64 x 18446744073709551615 = 18446744073709551615 - x % 18446744073709551616 := by
  rw [bx_u64, show BitVec.ofInt 64 18446744073709551615 = BitVec.allOnes 64 from by decide, BitVec.xor_allOnes, BitVec.toNat_not, wu64, BitVec.toNat_ofInt]; omega
theorem xor1i (x : Int) (h : -9223372036854775808 ≤ x) (h' : x ≤ 9223372036854775807) : Go.bits .xor .i64 x (-1) = -x - 1 := by
  rw [bx_i64, show BitVec.ofInt 64 (-1) = BitVec.allOnes 64 from by decide, BitVec.xor_allOnes, BitVec.toNat_not, wi64, BitVec.toNat_ofInt]; unfold wrap64; omega
theorem and1 (x : Int) : Go.bits .and .u64 x 1 = x % 2 := by
  rw [ba_u64, BitVec.toNat_and, show (BitVec.ofInt 64 1).toNat = 1 from by decide, Nat.and_one_is_mod, BitVec.toNat_ofInt, wu64]; omega
/-- A number, folded. -/
def zigZ (x : Int) : Int := if 0 ≤ x then 2 * x else -2 * x - 1
def zagZ (u : Int) : Int := if u % 2 = 0 then u / 2 else -(u / 2) - 1
theorem word_Zig_is (x : Int) (h : -9223372036854775808 ≤ x) (h' : x ≤ 9223372036854775807) : word_Zig.f x = some (zigZ x) := by
  unfold word_Zig.f zigZ
  by_cases c : 0 ≤ x
  · rw [show x / 9223372036854775808 = 0 from by omega, wu64 0, show (0 : Int) % 18446744073709551616 = 0 from rfl, xor0, if_pos c]
    simp only [wu64]; congr 1; omega
  · rw [show x / 9223372036854775808 = -1 from by omega, wu64 (-1), show (-1 : Int) % 18446744073709551616 = 18446744073709551615 from rfl, xor1, if_neg c]
    simp only [wu64]; congr 1; omega
theorem word_Zag_is (u : Int) (h : 0 ≤ u) (h' : u < 18446744073709551616) : word_Zag.f u = some (zagZ u) := by
  unfold word_Zag.f zagZ
  rw [and1]
  by_cases c : u % 2 = 0
  · rw [c, w64 (by omega) (by omega), w64 (i := 0) (by omega) (by omega), show wrap64 (-0) = 0 from by decide +kernel, xor0i, w64 (by omega) (by omega), if_pos rfl]
  · rw [show u % 2 = 1 from by omega, w64 (by omega) (by omega), w64 (i := 1) (by omega) (by omega), w64 (i := -1) (by omega) (by omega), xor1i _ (by omega) (by omega), if_neg (by omega)]
theorem r01_Zig_is (x : Int) (h : -9223372036854775808 ≤ x) (h' : x ≤ 9223372036854775807) : inquestref01_Zig.f x = some (zigZ x) := by
  unfold inquestref01_Zig.f zigZ
  by_cases c : 0 ≤ x
  · rw [if_pos c, if_pos c]; simp only [wu64]; congr 1; omega
  · rw [if_neg c, if_neg c]; rw [w64 (i := x + 1) (by omega) (by omega), w64 (by omega) (by omega)]; simp only [wu64]; congr 1; omega
theorem zag_zig (x : Int) : zagZ (zigZ x) = x := by unfold zigZ zagZ; split <;> split <;> omega
theorem zig_zag (u : Int) (h : 0 ≤ u) : zigZ (zagZ u) = u := by unfold zigZ zagZ; split <;> split <;> omega
theorem zig_lo (x : Int) (h : -9223372036854775808 ≤ x) (h' : x ≤ 9223372036854775807) : 0 ≤ zigZ x ∧ zigZ x < 18446744073709551616 := by unfold zigZ; split <;> omega
theorem zag_lo (u : Int) (h : 0 ≤ u) (h' : u < 18446744073709551616) : -9223372036854775808 ≤ zagZ u ∧ zagZ u ≤ 9223372036854775807 := by unfold zagZ; split <;> omega
theorem WordZigs : inquestlaw01_WordZigs.Pure := by
  intro x u hx hu
  obtain ⟨h0, h1⟩ := wf_i64 hx
  obtain ⟨u0, u1⟩ := wf_u64 hu
  obtain ⟨z0, z1⟩ := zig_lo x h0 h1
  obtain ⟨y0, y1⟩ := zag_lo u u0 u1
  refine Ev.rounds (Ev.congr (fun k => ?_) (Ev.bind lives01 (Ev.now _)))
  unfold inquestlaw01_WordZigs.f
  simp only [word_Zig_is x h0 h1, r01_Zig_is x h0 h1, Option.bind_some, if_true, word_Zag_is _ z0 z1, zag_zig, word_Zag_is u u0 u1, r01_Zig_is _ y0 y1, zig_zag u u0]

end Go.Proofs.Ytidplimfeelonaa.Pure
