/- The law CodeTexts answers true at every input: which text any code has, and which code any bytes say, or why none. No condition. The printed texts and the row beside it were written by wip/bin/pp.sh of this session. -/
import Derived.Test.YtifmajpcjgolgaaPCodeTextsx10
namespace Go.Proofs.Ytifmajpcjgolgaa.Pure
open Go.RowKit Go.Proofs.Ytifmajpcjgolgaa.PCodeTexts Go.Proofs.YtifmajpcjgolgaaW.PrintWords Go.Proofs.YtifmajpcjgolgaaW.PrintLast Go.Proofs.YtifmajpcjgolgaaW.PrintMore
set_option linter.unusedVariables false
set_option linter.unusedSimpArgs false
theorem w64 {i : Int} (h : -9223372036854775808 ≤ i) (h' : i ≤ 9223372036854775807) : wrap64 i = i := by unfold wrap64; omega
theorem wf_u64 {a : Int} (h : (Lit.int .u64 a).wf = true) : 0 ≤ a ∧ a < 18446744073709551616 := by
  simp [Lit.wf, IntKind.min, IntKind.max, IntKind.signed, IntKind.bits] at h; omega
theorem wf_i64 {a : Int} (h : (Lit.int .i64 a).wf = true) : -9223372036854775808 ≤ a ∧ a ≤ 9223372036854775807 := by
  simp [Lit.wf, IntKind.min, IntKind.max, IntKind.signed, IntKind.bits] at h; omega
theorem wf_u32 {a : Int} (h : (Lit.int .u32 a).wf = true) : 0 ≤ a ∧ a < 4294967296 := by
  simp [Lit.wf, IntKind.min, IntKind.max, IntKind.signed, IntKind.bits] at h; omega
theorem wu64 (n : Int) : IntKind.u64.wrap n = n % 18446744073709551616 := by simp [IntKind.wrap, IntKind.bits, IntKind.signed]
theorem wu32 (n : Int) : IntKind.u32.wrap n = n % 4294967296 := by simp [IntKind.wrap, IntKind.bits, IntKind.signed]
theorem wi64 (n : Int) : IntKind.i64.wrap n = wrap64 n := by
  simp [IntKind.wrap, IntKind.bits, IntKind.signed, wrap64]; split <;> omega
theorem bx_u64 (x y : Int) : Go.bits .xor .u64 x y = IntKind.u64.wrap ((BitVec.ofInt 64 x ^^^ BitVec.ofInt 64 y).toNat : Int) := rfl
theorem bx_i64 (x y : Int) : Go.bits .xor .i64 x y = IntKind.i64.wrap ((BitVec.ofInt 64 x ^^^ BitVec.ofInt 64 y).toNat : Int) := rfl
theorem ba_u64 (x y : Int) : Go.bits .and .u64 x y = IntKind.u64.wrap ((BitVec.ofInt 64 x &&& BitVec.ofInt 64 y).toNat : Int) := rfl
theorem bo_u64 (x y : Int) : Go.bits .or .u64 x y = IntKind.u64.wrap ((BitVec.ofInt 64 x ||| BitVec.ofInt 64 y).toNat : Int) := rfl
theorem bx_u32 (x y : Int) : Go.bits .xor .u32 x y = IntKind.u32.wrap ((BitVec.ofInt 32 x ^^^ BitVec.ofInt 32 y).toNat : Int) := rfl
theorem ba_u32 (x y : Int) : Go.bits .and .u32 x y = IntKind.u32.wrap ((BitVec.ofInt 32 x &&& BitVec.ofInt 32 y).toNat : Int) := rfl
theorem bo_u32 (x y : Int) : Go.bits .or .u32 x y = IntKind.u32.wrap ((BitVec.ofInt 32 x ||| BitVec.ofInt 32 y).toNat : Int) := rfl
theorem bo_u8 (x y : Int) : Go.bits .or .u8 x y = IntKind.u8.wrap ((BitVec.ofInt 8 x ||| BitVec.ofInt 8 y).toNat : Int) := rfl
theorem ba_u8 (x y : Int) : Go.bits .and .u8 x y = IntKind.u8.wrap ((BitVec.ofInt 8 x &&& BitVec.ofInt 8 y).toNat : Int) := rfl
theorem rd_drop (l : List Int) (i : Nat) (h : i < l.length) : l.drop i = rd l i :: l.drop (i + 1) := by
  rw [List.drop_eq_getElem_cons h]; congr 1; simp [rd, List.getElem?_eq_getElem h]
theorem rd_mem (l : List Int) (i : Nat) (h : i < l.length) : rd l i ∈ l := by
  simp [rd, List.getElem?_eq_getElem h]
theorem cut01 (l : List Int) (n : Nat) : inquestref01_Cut.f l n = some (l.take n) := by
  unfold inquestref01_Cut.f
  by_cases c : l.length ≤ n
  · rw [if_neg (by omega), List.take_of_length_le c]
  · rw [if_pos (by omega), if_pos (by omega), if_pos (by omega), Int.toNat_natCast]
theorem wf_u8 {x : Int} (h : (Lit.int .u8 x).wf = true) : 0 ≤ x ∧ x < 256 := by
  simp [Lit.wf, IntKind.min, IntKind.max, IntKind.signed, IntKind.bits] at h; omega
theorem wf_u8s {l : List Int} (h : ∀ x ∈ l, (Lit.int .u8 x).wf = true) : ∀ x ∈ l, 0 ≤ x ∧ x < 256 := fun x hx => wf_u8 (h x hx)
theorem same01_l0 (d : Nat) : ∀ (a b : List Int) (i : Nat), a.length = b.length → a.length ≤ 9223372036854775806 → a.length - i = d → i ≤ a.length →
    Ev (fun k => inquestref01_Same.l0 k a b i) (decide (a.drop i = b.drop i)) := by
  induction d with
  | zero =>
    intro a b i h hl hd hi
    refine ⟨1, fun k hk => ?_⟩
    obtain ⟨k, rfl⟩ : ∃ j, k = j + 1 := ⟨k - 1, by omega⟩
    simp only [inquestref01_Same.l0]; rw [if_neg (by omega), List.drop_of_length_le (by omega), List.drop_of_length_le (by omega)]; simp
  | succ d ih =>
    intro a b i h hl hd hi
    have e : (a.drop i = b.drop i) ↔ (rd a i = rd b i ∧ a.drop (i + 1) = b.drop (i + 1)) := by
      rw [List.drop_eq_getElem_cons (show i < a.length by omega), List.drop_eq_getElem_cons (show i < b.length by omega), List.cons.injEq]
      simp [rd, List.getElem?_eq_getElem (show i < a.length by omega), List.getElem?_eq_getElem (show i < b.length by omega)]
    by_cases c : rd a i = rd b i
    · have h' := ih a b (i + 1) h hl (by omega) (by omega)
      rw [show decide (a.drop i = b.drop i) = decide (a.drop (i + 1) = b.drop (i + 1)) from by simp [e, c]]
      refine Ev.step (fun k => ?_) h'
      simp only [inquestref01_Same.l0]
      rw [if_pos (by omega), if_pos (by omega), if_pos (by omega), if_pos c, w64 (by omega) (by omega)]; rfl
    · refine ⟨1, fun k hk => ?_⟩
      obtain ⟨k, rfl⟩ : ∃ j, k = j + 1 := ⟨k - 1, by omega⟩
      simp only [inquestref01_Same.l0]
      rw [if_pos (by omega), if_pos (by omega), if_pos (by omega), if_neg c]; simp [e, c]
/-- What Same answers: whether the lists are the same. -/
theorem same01 (a b : List Int) (hl : a.length ≤ 9223372036854775806) : Ev (fun k => inquestref01_Same.f k a b) (decide (a = b)) := by
  by_cases h : a.length = b.length
  · have h' := same01_l0 a.length a b 0 h hl (by omega) (by omega)
    simp only [List.drop_zero] at h'
    refine Ev.congr (fun k => ?_) h'
    unfold inquestref01_Same.f
    rw [if_pos (by omega)]; rfl
  · have n : a ≠ b := fun e => h (by rw [e])
    rw [decide_eq_false n]
    refine Ev.congr (fun k => ?_) (Ev.now false)
    unfold inquestref01_Same.f
    rw [if_neg (by omega)]
theorem same01_t (a b : List Int) (hl : a.length ≤ 9223372036854775806) (h : a = b) : Ev (fun k => inquestref01_Same.f k a b) true := by
  have := same01 a b hl; rwa [decide_eq_true h] at this
theorem xor0 (x : Int) : Go.bits .xor .u64 x 0 = IntKind.u64.wrap x := by
  rw [bx_u64, show BitVec.ofInt 64 0 = 0#64 from rfl, BitVec.xor_zero, BitVec.toNat_ofInt, wu64, wu64]; omega
theorem xor0i (x : Int) : Go.bits .xor .i64 x 0 = wrap64 x := by
  rw [bx_i64, show BitVec.ofInt 64 0 = 0#64 from rfl, BitVec.xor_zero, BitVec.toNat_ofInt, wi64]; unfold wrap64; omega
theorem xor1 (x : Int) : Go.bits .xor .u64 x 18446744073709551615 = 18446744073709551615 - x % 18446744073709551616 := by
  rw [bx_u64, show BitVec.ofInt 64 18446744073709551615 = BitVec.allOnes 64 from by decide, BitVec.xor_allOnes, BitVec.toNat_not, wu64, BitVec.toNat_ofInt]; omega
theorem xor1i (x : Int) (h : -9223372036854775808 ≤ x) (h' : x ≤ 9223372036854775807) : Go.bits .xor .i64 x (-1) = -x - 1 := by
  rw [bx_i64, show BitVec.ofInt 64 (-1) = BitVec.allOnes 64 from by decide, BitVec.xor_allOnes, BitVec.toNat_not, wi64, BitVec.toNat_ofInt]; unfold wrap64; omega
theorem and1 (x : Int) : Go.bits .and .u64 x 1 = x % 2 := by
  rw [ba_u64, BitVec.toNat_and, show (BitVec.ofInt 64 1).toNat = 1 from by decide, Nat.and_one_is_mod, BitVec.toNat_ofInt, wu64]; omega
/-- A number, folded. -/
def zigZ (x : Int) : Int := if 0 ≤ x then 2 * x else -2 * x - 1
def zagZ (u : Int) : Int := if u % 2 = 0 then u / 2 else -(u / 2) - 1
theorem word_Zig_is (x : Int) (h : -9223372036854775808 ≤ x) (h' : x ≤ 9223372036854775807) : word_Zig.f x = some (zigZ x) := by
  unfold word_Zig.f zigZ
  by_cases c : 0 ≤ x
  · rw [show x / 9223372036854775808 = 0 from by omega, wu64 0, show (0 : Int) % 18446744073709551616 = 0 from rfl, xor0, if_pos c]
    simp only [wu64]; congr 1; omega
  · rw [show x / 9223372036854775808 = -1 from by omega, wu64 (-1), show (-1 : Int) % 18446744073709551616 = 18446744073709551615 from rfl, xor1, if_neg c]
    simp only [wu64]; congr 1; omega
theorem word_Zag_is (u : Int) (h : 0 ≤ u) (h' : u < 18446744073709551616) : word_Zag.f u = some (zagZ u) := by
  unfold word_Zag.f zagZ
  rw [and1]
  by_cases c : u % 2 = 0
  · rw [c, w64 (by omega) (by omega), w64 (i := 0) (by omega) (by omega), show wrap64 (-0) = 0 from by decide +kernel, xor0i, w64 (by omega) (by omega), if_pos rfl]
  · rw [show u % 2 = 1 from by omega, w64 (by omega) (by omega), w64 (i := 1) (by omega) (by omega), w64 (i := -1) (by omega) (by omega), xor1i _ (by omega) (by omega), if_neg (by omega)]
theorem zag_zig (x : Int) : zagZ (zigZ x) = x := by unfold zigZ zagZ; split <;> split <;> omega
theorem zig_zag (u : Int) (h : 0 ≤ u) : zigZ (zagZ u) = u := by unfold zigZ zagZ; split <;> split <;> omega
theorem zig_lo (x : Int) (h : -9223372036854775808 ≤ x) (h' : x ≤ 9223372036854775807) : 0 ≤ zigZ x ∧ zigZ x < 18446744073709551616 := by unfold zigZ; split <;> omega
theorem zag_lo (u : Int) (h : 0 ≤ u) (h' : u < 18446744073709551616) : -9223372036854775808 ≤ zagZ u ∧ zagZ u ≤ 9223372036854775807 := by unfold zagZ; split <;> omega
/-- A short number's bytes; d: one less than as many as it may have. -/
def varL : Nat → Int → List Int
  | 0, x => [x]
  | d + 1, x => if 128 ≤ x then (x % 128 + 128) :: varL d (x / 128) else [x]
theorem varL_len (d : Nat) : ∀ x, 1 ≤ (varL d x).length ∧ (varL d x).length ≤ d + 1 := by
  induction d with
  | zero => intro x; simp [varL]
  | succ d ih => intro x; unfold varL; split <;> simp; exact ih _ |>.2
theorem varL_more (d : Nat) : ∀ (x : Int) (e : Nat), x < 128 ^ (d + 1) → d ≤ e → varL e x = varL d x := by
  induction d with
  | zero =>
    intro x e h _
    cases e with
    | zero => rfl
    | succ e => unfold varL; rw [if_neg (by simp at h; omega)]
  | succ d ih =>
    intro x e h he
    obtain ⟨e, rfl⟩ : ∃ m, e = m + 1 := ⟨e - 1, by omega⟩
    have p : (128 : Int) ^ (d + 1 + 1) = 128 ^ (d + 1) * 128 := Int.pow_succ ..
    unfold varL
    split
    · rw [ih _ _ (by omega) (by omega)]
    · rfl
theorem or128 (x : Int) : Go.bits .or .u8 (x % 256) 128 = x % 128 + 128 := by
  have key : ∀ y : Nat, y < 256 → Go.bits .or .u8 (y : Int) 128 = (y : Int) % 128 + 128 := by decide +kernel
  have := key (x % 256).toNat (by omega)
  rw [show (((x % 256).toNat : Nat) : Int) = x % 256 from by omega] at this
  rw [this]; omega
theorem pow128_le (n : Nat) (h : n ≤ 9) : (128 : Int) ^ n ≤ 9223372036854775808 := by
  have h2 : (128 : Int) ^ n * 128 ^ (9 - n) = 9223372036854775808 := by rw [← Int.pow_add, show n + (9 - n) = 9 from by omega]; decide
  have h3 : (0 : Int) < 128 ^ (9 - n) := Int.pow_pos (by decide)
  have h4 : (0 : Int) < 128 ^ n := Int.pow_pos (by decide)
  calc (128 : Int) ^ n = 128 ^ n * 1 := by omega
    _ ≤ 128 ^ n * 128 ^ (9 - n) := Int.mul_le_mul_of_nonneg_left (by omega) (by omega)
    _ = _ := h2
theorem u64_128 {x : Int} (h : x < 18446744073709551616) : x < 128 ^ (9 + 1) := by
  have : (128 : Int) ^ (9 + 1) = 1180591620717411303424 := by decide
  omega
theorem word_Var_l0 (d : Nat) : ∀ (x : Int) (xs : List Int), 0 ≤ x → x < 128 ^ (d + 1) → xs.length + d ≤ 20 → Ev (fun k => word_Var.l0 k x xs) (xs ++ varL d x) := by
  induction d with
  | zero =>
    intro x xs h0 hx hl
    refine Ev.step (f := fun _ => some (xs ++ [x])) (fun k => ?_) (Ev.now _)
    simp only [word_Var.l0]
    rw [if_neg (by simp at hx; omega), if_pos (by omega), Int.emod_eq_of_lt h0 (by simp at hx; omega)]
  | succ d ih =>
    intro x xs h0 hx hl
    have p : (128 : Int) ^ (d + 1 + 1) = 128 ^ (d + 1) * 128 := Int.pow_succ ..
    by_cases c : 128 ≤ x
    · have g := ih (x / 128) (xs ++ [x % 128 + 128]) (by omega) (by omega) (by simp; omega)
      rw [show varL (d + 1) x = (x % 128 + 128) :: varL d (x / 128) from by rw [varL, if_pos c]]
      rw [List.append_assoc] at g
      refine Ev.step (fun k => ?_) g
      simp only [word_Var.l0]
      rw [if_pos (by omega), if_pos (by omega), or128]
    · rw [show varL (d + 1) x = [x] from by rw [varL, if_neg c]]
      refine Ev.step (f := fun _ => some (xs ++ [x])) (fun k => ?_) (Ev.now _)
      simp only [word_Var.l0]
      rw [if_neg (by omega), if_pos (by omega), Int.emod_eq_of_lt h0 (by omega)]
theorem word_Var_ev (x : Int) (h0 : 0 ≤ x) (h1 : x < 18446744073709551616) : Ev (fun k => word_Var.f k x) (varL 9 x) :=
  word_Var_l0 9 x [] h0 (u64_128 h1) (by simp)
/-- What a short number's bytes say from place i on: the number, how many bytes it has from there on, the error. -/
def readR : Nat → List Int → Int × Int × Int
  | _, [] => (0, 0, 3)
  | i, c :: l => if i = 9 ∧ 1 < c ∨ 0 < i ∧ c = 0 then (0, 0, 4) else if c < 128 then (c, 1, 0) else
    if (readR (i + 1) l).2.2 = 0 then (c - 128 + 128 * (readR (i + 1) l).1, (readR (i + 1) l).2.1 + 1, 0) else (0, 0, (readR (i + 1) l).2.2)
theorem readR_bd : ∀ (l : List Int) (i : Nat), i ≤ 9 → (∀ c ∈ l, 0 ≤ c ∧ c < 256) → 0 ≤ (readR i l).1 ∧ (readR i l).1 * 128 ^ i < 18446744073709551616 ∧ 0 ≤ (readR i l).2.1 ∧ (readR i l).2.1 ≤ l.length ∧ ((readR i l).2.2 = 0 → 1 ≤ (readR i l).2.1 ∧ (readR i l).2.1 + i ≤ 10 ∧ (0 < i → 0 < (readR i l).1)) ∧ ((readR i l).2.2 ≠ 0 → (readR i l).1 = 0 ∧ (readR i l).2.1 = 0)
  | [], i, hi, _ => by simp [readR]
  | c :: l, i, hi, hb => by
    have hc := hb c (by simp)
    unfold readR
    have p := pow128_le i hi
    have q : (0 : Int) < 128 ^ i := Int.pow_pos (by decide)
    split
    · simp; omega
    · rename_i h1
      split
      · rename_i h2
        refine ⟨hc.1, ?_, by simp, by simp; omega, fun _ => ⟨by simp, by simp; omega, fun h => by simp; omega⟩, fun h => by simp at h⟩
        by_cases h9 : i = 9
        · subst h9
          have : c = 1 ∨ c = 0 := by omega
          rcases this with rfl | rfl <;> simp
        · have p := pow128_le (i + 1) (by omega)
          have e : (128 : Int) ^ (i + 1) = 128 ^ i * 128 := Int.pow_succ ..
          have : c * 128 ^ i ≤ 127 * 128 ^ i := Int.mul_le_mul_of_nonneg_right (by omega) (by omega)
          simp only; omega
      · rename_i h2
        have h9 : i < 9 := by omega
        obtain ⟨a, b, c1, d, e, f⟩ := readR_bd l (i + 1) (by omega) (fun x hx => hb x (by simp [hx]))
        split
        · rename_i h3
          obtain ⟨e1, e2, e3⟩ := e h3
          have e3 := e3 (by omega)
          refine ⟨by simp only; omega, ?_, by simp only; omega, by simp; omega, fun _ => ⟨by simp only; omega, by simp only; omega, fun h => by simp only; omega⟩, fun h => by simp at h⟩
          have ex : (128 : Int) ^ (i + 1) = 128 ^ i * 128 := Int.pow_succ ..
          have hm : (readR (i + 1) l).1 * 128 ^ (i + 1) + 128 ^ (i + 1) ≤ 18446744073709551616 := by
            have hd : (18446744073709551616 : Int) = 128 ^ (i + 1) * (2 * 128 ^ (8 - i)) := by
              rw [show (128 : Int) ^ (i + 1) * (2 * 128 ^ (8 - i)) = 2 * (128 ^ (i + 1) * 128 ^ (8 - i)) from by rw [Int.mul_left_comm], ← Int.pow_add, show i + 1 + (8 - i) = 9 from by omega]; decide
            have hlt : (readR (i + 1) l).1 < 2 * 128 ^ (8 - i) := by
              rw [hd, Int.mul_comm] at b
              exact Int.lt_of_mul_lt_mul_left b (Int.le_of_lt (Int.pow_pos (by decide)))
            rw [hd]
            calc (readR (i + 1) l).1 * 128 ^ (i + 1) + 128 ^ (i + 1) = 128 ^ (i + 1) * ((readR (i + 1) l).1 + 1) := by rw [Int.mul_add, Int.mul_one, Int.mul_comm]
              _ ≤ _ := Int.mul_le_mul_of_nonneg_left (by omega) (Int.le_of_lt (Int.pow_pos (by decide)))
          have hk : (c - 128) * 128 ^ i ≤ 127 * 128 ^ i := Int.mul_le_mul_of_nonneg_right (by omega) (by omega)
          have hs : (c - 128 + 128 * (readR (i + 1) l).1) * 128 ^ i = (c - 128) * 128 ^ i + (readR (i + 1) l).1 * 128 ^ (i + 1) := by
            rw [Int.add_mul, ex, Int.mul_comm 128 (readR (i + 1) l).1, Int.mul_assoc, Int.mul_comm 128 (128 ^ i)]
          simp only; rw [hs]; omega
        · refine ⟨by simp, by simp, by simp, by simp; omega, fun h => ?_, fun _ => ⟨rfl, rfl⟩⟩
          rename_i h3; exact absurd h h3
theorem and127 (c : Int) (h0 : 0 ≤ c) (h1 : c < 256) : Go.bits .and .u8 c 127 = c % 128 := by
  have key : ∀ y : Nat, y < 256 → Go.bits .and .u8 (y : Int) 127 = (y : Int) % 128 := by decide +kernel
  have := key c.toNat (by omega)
  rwa [show ((c.toNat : Nat) : Int) = c from by omega] at this
theorem or_add (x y : Int) (n : Nat) (h0 : 0 ≤ x) (h1 : x < 128 ^ n) (y0 : 0 ≤ y) (h : x + y * 128 ^ n < 18446744073709551616) : Go.bits .or .u64 x (y * 128 ^ n) = x + y * 128 ^ n := by
  obtain ⟨x, rfl⟩ := Int.eq_ofNat_of_zero_le h0
  obtain ⟨y, rfl⟩ := Int.eq_ofNat_of_zero_le y0
  have e : (128 : Int) ^ n = ((2 ^ (7 * n) : Nat) : Int) := by rw [Nat.pow_mul]; simp
  have q : (0 : Int) < 128 ^ n := Int.pow_pos (by decide)
  rw [e] at h h1 q ⊢
  have e2 : ((y : Int) * ((2 ^ (7 * n) : Nat) : Int)) = ((2 ^ (7 * n) * y : Nat) : Int) := by rw [Nat.mul_comm (2 ^ (7 * n))]; simp
  rw [e2] at h ⊢
  have hx : x < 18446744073709551616 := by omega
  rw [bo_u64, BitVec.toNat_or, BitVec.toNat_ofInt, BitVec.toNat_ofInt, wu64, show ((x : Int) % ((2 ^ 64 : Nat) : Int)).toNat = x from by omega, show (((2 ^ (7 * n) * y : Nat) : Int) % ((2 ^ 64 : Nat) : Int)).toNat = 2 ^ (7 * n) * y from by omega, Nat.or_comm, ← Nat.two_pow_add_eq_or_of_lt (by omega)]
  omega
theorem word_ReadVar_l0 : ∀ (d : Nat) (b : List Int) (x : Int) (i : Nat), (∀ c ∈ b, 0 ≤ c ∧ c < 256) → b.length - i = d → i ≤ b.length → i ≤ 9 → b.length ≤ 140737488351232 → 0 ≤ x → x < 128 ^ i →
    Ev (fun k => word_ReadVar.l0 k x b (b.length : Int) i) (if (readR i (b.drop i)).2.2 = 0 then (x + (readR i (b.drop i)).1 * 128 ^ i, i + (readR i (b.drop i)).2.1, 0) else (0, 0, (readR i (b.drop i)).2.2)) := by
  intro d
  induction d with
  | zero =>
    intro b x i hb hd hi h9 hl h0 hx
    rw [List.drop_of_length_le (by omega)]
    refine Ev.step (f := fun _ => some (0, 0, 3)) (fun k => ?_) (Ev.now _)
    simp only [word_ReadVar.l0]; rw [if_neg (by omega)]
  | succ d ih =>
    intro b x i hb hd hi h9 hl h0 hx
    have hc := hb _ (rd_mem b i (by omega))
    have hbd := readR_bd (b.drop i) i h9 (fun c hc => hb c (List.mem_of_mem_drop hc))
    rw [rd_drop b i (by omega)] at hbd ⊢
    have p := pow128_le i h9
    have q : (0 : Int) < 128 ^ i := Int.pow_pos (by decide)
    have start : ∀ k, word_ReadVar.l0 (k + 1) x b (b.length : Int) i = word_ReadVar.j1 k x i (rd b i) b (b.length : Int) i (decide (i = 9 ∧ 1 < rd b i)) := by
      intro k
      simp only [word_ReadVar.l0]
      rw [if_pos (by omega), if_pos (by omega), if_pos (by omega)]
      by_cases c9 : i = 9
      · rw [if_pos (by omega)]; congr 1; simp [c9]
      · rw [if_neg (by omega), decide_eq_false (by omega)]
    have e7 : ∀ c : Int, 0 ≤ c → c < 256 → shl .u64 (IntKind.u64.wrap (Go.bits .and .u8 c 127)) (wrap64 (7 * (i : Int))) = (c % 128) * 128 ^ i % 18446744073709551616 := by
      intro c c0 c1
      unfold shl
      rw [and127 c c0 c1, wu64, wu64, w64 (by omega) (by omega), show (7 * (i : Int)).toNat = 7 * i from by omega, show min (7 * i) IntKind.u64.bits = 7 * i from Nat.min_eq_left (by simp only [IntKind.bits]; omega), Int.emod_eq_of_lt (a := c % 128) (by omega) (by omega), Int.pow_mul]; rfl
    refine Ev.step start ?_
    have er : readR i (rd b i :: b.drop (i + 1)) = if i = 9 ∧ 1 < rd b i ∨ 0 < i ∧ rd b i = 0 then (0, 0, 4) else if rd b i < 128 then (rd b i, 1, 0) else
      if (readR (i + 1) (b.drop (i + 1))).2.2 = 0 then (rd b i - 128 + 128 * (readR (i + 1) (b.drop (i + 1))).1, (readR (i + 1) (b.drop (i + 1))).2.1 + 1, 0) else (0, 0, (readR (i + 1) (b.drop (i + 1))).2.2) := by rw [readR]
    by_cases f1 : i = 9 ∧ 1 < rd b i
    · rw [if_pos (.inl f1)] at er
      rw [er, decide_eq_true f1]
      exact Ev.step (f := fun _ => some (0, 0, 4)) (fun k => by simp [word_ReadVar.j1]) (Ev.now _)
    · rw [decide_eq_false f1]
      by_cases f2 : 0 < i ∧ rd b i = 0
      · rw [if_pos (.inr f2)] at er
        rw [er]
        refine Ev.step (f := fun _ => some (0, 0, 4)) (fun k => ?_) (Ev.now _)
        simp only [word_ReadVar.j1]
        rw [if_neg (by simp), if_pos (by rw [w64 (by omega) (by omega)]; omega), if_pos (by omega), if_pos f2.2, if_pos (by omega)]
      · rw [if_neg (by omega)] at er
        by_cases f3 : rd b i < 128
        · rw [if_pos f3] at er
          rw [er]
          simp only [if_true]
          have hlt : x + rd b i * 128 ^ i < 18446744073709551616 := by
            by_cases h9' : i = 9
            · have : rd b i = 1 ∨ rd b i = 0 := by omega
              have e9 : (128 : Int) ^ i = 9223372036854775808 := by rw [h9']; decide
              rw [e9] at hx ⊢
              rcases this with e | e <;> rw [e] <;> omega
            · have p := pow128_le (i + 1) (by omega)
              have e : (128 : Int) ^ (i + 1) = 128 ^ i * 128 := Int.pow_succ ..
              have : rd b i * 128 ^ i ≤ 127 * 128 ^ i := Int.mul_le_mul_of_nonneg_right (by omega) (by omega)
              omega
          have o := or_add x (rd b i) i h0 hx hc.1 hlt
          refine Ev.step (f := fun _ => some (x + rd b i * 128 ^ i, (i : Int) + 1, 0)) (fun k => ?_) (Ev.now _)
          have hm : 0 ≤ rd b i * 128 ^ i := Int.mul_nonneg hc.1 (by omega)
          simp only [word_ReadVar.j1]
          rw [if_neg (by simp), if_pos (by rw [w64 (by omega) (by omega)]; omega), if_pos f3, e7 _ hc.1 hc.2, Int.emod_eq_of_lt (a := rd b i) (by omega) f3, Int.emod_eq_of_lt (a := rd b i * 128 ^ i) hm (by omega), o, w64 (i := (i : Int) + 1) (by omega) (by omega)]
          by_cases f4 : rd b i = 0
          · rw [if_pos f4, if_neg (by omega)]
          · rw [if_neg f4]
        · rw [if_neg f3] at er
          rw [er]
          have h8 : i < 9 := by omega
          have p2 := pow128_le (i + 1) (by omega)
          have e : (128 : Int) ^ (i + 1) = 128 ^ i * 128 := Int.pow_succ ..
          have hk : (rd b i - 128) * 128 ^ i ≤ 127 * 128 ^ i := Int.mul_le_mul_of_nonneg_right (by omega) (by omega)
          have hm : 0 ≤ (rd b i - 128) * 128 ^ i := Int.mul_nonneg (by omega) (by omega)
          have o := or_add x (rd b i - 128) i h0 hx (by omega) (by omega)
          have g := ih b (x + (rd b i - 128) * 128 ^ i) (i + 1) hb (by omega) (by omega) (by omega) hl (by omega) (by omega)
          have fin : (if (readR (i + 1) (b.drop (i + 1))).2.2 = 0 then (x + (rd b i - 128) * 128 ^ i + (readR (i + 1) (b.drop (i + 1))).1 * 128 ^ (i + 1), ((i + 1 : Nat) : Int) + (readR (i + 1) (b.drop (i + 1))).2.1, (0 : Int)) else (0, 0, (readR (i + 1) (b.drop (i + 1))).2.2)) = (if (if (readR (i + 1) (b.drop (i + 1))).2.2 = 0 then (rd b i - 128 + 128 * (readR (i + 1) (b.drop (i + 1))).1, (readR (i + 1) (b.drop (i + 1))).2.1 + 1, (0 : Int)) else (0, 0, (readR (i + 1) (b.drop (i + 1))).2.2)).2.2 = 0 then (x + (if (readR (i + 1) (b.drop (i + 1))).2.2 = 0 then (rd b i - 128 + 128 * (readR (i + 1) (b.drop (i + 1))).1, (readR (i + 1) (b.drop (i + 1))).2.1 + 1, (0 : Int)) else (0, 0, (readR (i + 1) (b.drop (i + 1))).2.2)).1 * 128 ^ i, (i : Int) + (if (readR (i + 1) (b.drop (i + 1))).2.2 = 0 then (rd b i - 128 + 128 * (readR (i + 1) (b.drop (i + 1))).1, (readR (i + 1) (b.drop (i + 1))).2.1 + 1, (0 : Int)) else (0, 0, (readR (i + 1) (b.drop (i + 1))).2.2)).2.1, (0 : Int)) else (0, 0, (if (readR (i + 1) (b.drop (i + 1))).2.2 = 0 then (rd b i - 128 + 128 * (readR (i + 1) (b.drop (i + 1))).1, (readR (i + 1) (b.drop (i + 1))).2.1 + 1, (0 : Int)) else (0, 0, (readR (i + 1) (b.drop (i + 1))).2.2)).2.2)) := by
            generalize readR (i + 1) (b.drop (i + 1)) = r
            by_cases h : r.2.2 = 0
            · simp only [if_pos h, if_true]
              congr 1
              · rw [Int.add_mul, e, Int.mul_comm 128 r.1, Int.mul_assoc, Int.mul_comm 128 (128 ^ i)]; omega
              · congr 1; omega
            · simp only [if_neg h]
          rw [fin] at g
          refine Ev.step (fun k => ?_) g
          simp only [word_ReadVar.j1]
          rw [if_neg (by simp), if_pos (by rw [w64 (by omega) (by omega)]; omega), if_neg f3, e7 _ hc.1 hc.2, show rd b i % 128 = rd b i - 128 from by omega, Int.emod_eq_of_lt (a := (rd b i - 128) * 128 ^ i) hm (by omega), o, w64 (i := (i : Int) + 1) (by omega) (by omega)]
          rfl
theorem word_ReadVar_ev (b : List Int) (hb : ∀ c ∈ b, 0 ≤ c ∧ c < 256) (hl : b.length ≤ 140737488351232) : Ev (fun k => word_ReadVar.f k b) (readR 0 b) := by
  have g := word_ReadVar_l0 b.length b 0 0 hb rfl (by omega) (by omega) hl (by omega) (by decide)
  have d := readR_bd b 0 (by omega) hb
  rw [List.drop_zero] at g
  have e : (if (readR 0 b).2.2 = 0 then ((0 : Int) + (readR 0 b).1 * 128 ^ 0, ((0 : Nat) : Int) + (readR 0 b).2.1, (0 : Int)) else (0, 0, (readR 0 b).2.2)) = readR 0 b := by
    rcases h : readR 0 b with ⟨v, n, e⟩
    rw [h] at d
    by_cases c : e = 0
    · simp [c]
    · obtain ⟨rfl, rfl⟩ := d.2.2.2.2.2 c
      simp [c]
  rw [e] at g
  exact g
/-- What is read, written again, is the bytes. -/
theorem varL_readR : ∀ (l : List Int) (i : Nat), i ≤ 9 → (∀ c ∈ l, 0 ≤ c ∧ c < 256) → (readR i l).2.2 = 0 → varL (9 - i) (readR i l).1 = l.take (readR i l).2.1.toNat
  | [], i, hi, _, h => by simp [readR] at h
  | c :: l, i, hi, hb, h => by
    have hc := hb c (by simp)
    unfold readR at h ⊢
    split at h
    · simp at h
    · rename_i h1
      rw [if_neg h1]
      split at h
      · rename_i h2
        rw [if_pos h2]
        have : varL (9 - i) c = [c] := by
          cases 9 - i with
          | zero => rfl
          | succ d => rw [varL, if_neg (by omega)]
        simp [this]
      · rename_i h2
        rw [if_neg h2]
        have h9 : i < 9 := by omega
        have hbd := readR_bd l (i + 1) (by omega) (fun x hx => hb x (by simp [hx]))
        split at h
        · rename_i h3
          rw [if_pos h3]
          have ih := varL_readR l (i + 1) (by omega) (fun x hx => hb x (by simp [hx])) h3
          obtain ⟨e1, e2, e3⟩ := hbd.2.2.2.2.1 h3
          have e3 := e3 (by omega)
          simp only
          rw [show 9 - i = (9 - (i + 1)) + 1 from by omega, varL, if_pos (by omega), show ((readR (i + 1) l).2.1 + 1).toNat = (readR (i + 1) l).2.1.toNat + 1 from by omega, List.take_succ_cons, show (c - 128 + 128 * (readR (i + 1) l).1) / 128 = (readR (i + 1) l).1 from by omega, ih]
          congr 1; omega
        · rename_i h3
          exact absurd h h3
/-- What is written is read, whatever stands behind. -/
theorem readR_varL (d : Nat) : ∀ (x : Int) (i : Nat) (rest : List Int), i + d = 9 → 0 ≤ x → x * 128 ^ i < 18446744073709551616 → (0 < i → 0 < x) →
    readR i (varL d x ++ rest) = (x, ((varL d x).length : Int), 0) := by
  induction d with
  | zero =>
    intro x i rest hi h0 hx hp
    have : (128 : Int) ^ 9 = 9223372036854775808 := by decide
    obtain rfl : i = 9 := by omega
    have := hp (by omega)
    simp only [varL, List.cons_append, readR]
    rw [if_neg (by omega), if_pos (by omega)]; simp
  | succ d ih =>
    intro x i rest hi h0 hx hp
    by_cases c : 128 ≤ x
    · have ev : varL (d + 1) x = (x % 128 + 128) :: varL d (x / 128) := by rw [varL, if_pos c]
      rw [ev]
      have e : (128 : Int) ^ (i + 1) = 128 ^ i * 128 := Int.pow_succ ..
      have q : (0 : Int) < 128 ^ i := Int.pow_pos (by decide)
      have hm : x / 128 * 128 ^ (i + 1) < 18446744073709551616 := by
        rw [e, Int.mul_comm (128 ^ i), ← Int.mul_assoc]
        exact Int.lt_of_le_of_lt (Int.mul_le_mul_of_nonneg_right (by omega) (by omega)) hx
      have g := ih (x / 128) (i + 1) rest (by omega) (by omega) hm (by omega)
      simp only [List.cons_append, readR]
      rw [if_neg (by omega), if_neg (by omega), g]
      simp
      omega
    · have ev : varL (d + 1) x = [x] := by rw [varL, if_neg c]
      rw [ev]
      simp only [List.cons_append, readR]
      rw [if_neg (by omega), if_pos (by omega)]; simp
theorem varL_bytes (d : Nat) : ∀ (x : Int), 0 ≤ x → x < 128 ^ (d + 1) → ∀ c ∈ varL d x, 0 ≤ c ∧ c < 256 := by
  induction d with
  | zero => intro x h0 h c hc; simp [varL] at hc; simp at h; omega
  | succ d ih =>
    intro x h0 h c hc
    have p : (128 : Int) ^ (d + 1 + 1) = 128 ^ (d + 1) * 128 := Int.pow_succ ..
    unfold varL at hc
    split at hc
    · rcases List.mem_cons.mp hc with rfl | hc
      · omega
      · exact ih _ (by omega) (by omega) c hc
    · have : c = x := by simpa using hc
      omega
/-- The number that low sevens of bits are, the lowest first. -/
def valL : List Int → Int
  | [] => 0
  | c :: l => c % 128 + 128 * valL l
theorem valL_nonneg : ∀ l, 0 ≤ valL l
  | [] => by simp [valL]
  | c :: l => by have := valL_nonneg l; unfold valL; omega
theorem valL_drop : ∀ (j : Nat) (l : List Int), valL (l.drop j) ≤ valL l
  | 0, l => by simp
  | j + 1, [] => by simp
  | j + 1, c :: l => by
    have := valL_drop j l
    have := valL_nonneg l
    rw [List.drop_succ_cons]
    show _ ≤ c % 128 + 128 * valL l
    omega
theorem valL_readR : ∀ (l : List Int) (i : Nat), i ≤ 9 → (∀ c ∈ l, 0 ≤ c ∧ c < 256) → (readR i l).2.2 = 0 → valL (l.take (readR i l).2.1.toNat) = (readR i l).1
  | [], i, hi, _, h => by simp [readR] at h
  | c :: l, i, hi, hb, h => by
    have hc := hb c (by simp)
    unfold readR at h ⊢
    split at h
    · simp at h
    · rename_i h1
      rw [if_neg h1]
      split at h
      · rename_i h2
        rw [if_pos h2]
        simp [valL]; omega
      · rename_i h2
        rw [if_neg h2]
        have h9 : i < 9 := by omega
        have hbd := readR_bd l (i + 1) (by omega) (fun x hx => hb x (by simp [hx]))
        split at h
        · rename_i h3
          rw [if_pos h3]
          have ih := valL_readR l (i + 1) (by omega) (fun x hx => hb x (by simp [hx])) h3
          simp only
          rw [show ((readR (i + 1) l).2.1 + 1).toNat = (readR (i + 1) l).2.1.toNat + 1 from by omega, List.take_succ_cons, valL, ih]
          omega
        · rename_i h3
          exact absurd h h3
theorem r01_ReadVar_l1 (j : Nat) : ∀ (b : List Int) (n : Nat), (∀ c ∈ b, 0 ≤ c ∧ c < 256) → n ≤ b.length → b.length ≤ 140737488351232 → j ≤ n → valL (b.take n) < 18446744073709551616 →
    Ev (fun k => inquestref01_ReadVar.l1 k b n (valL ((b.take n).drop j)) ((j : Int) - 1)) (valL (b.take n), (n : Int), 0) := by
  induction j with
  | zero =>
    intro b n hb hn hl hj hv
    refine Ev.step (f := fun _ => some (valL (b.take n), (n : Int), 0)) (fun k => ?_) (Ev.now _)
    simp only [inquestref01_ReadVar.l1]
    rw [if_neg (by omega), List.drop_zero]
  | succ j ih =>
    intro b n hb hn hl hj hv
    have e : (b.take n).drop j = rd b j :: (b.take n).drop (j + 1) := by
      rw [List.drop_eq_getElem_cons (by simp; omega), List.getElem_take]
      congr 1
      simp [rd, List.getElem?_eq_getElem (show j < b.length by omega)]
    have hc := hb _ (rd_mem b j (by omega))
    have g := ih b n hb hn hl (by omega) hv
    have d := valL_drop j (b.take n)
    rw [e, valL] at g d
    have v0 := valL_nonneg ((b.take n).drop (j + 1))
    refine Ev.step (fun k => ?_) g
    simp only [inquestref01_ReadVar.l1]
    rw [if_pos (by omega), if_pos (by omega), if_pos (by omega), show ((j + 1 : Nat) : Int) - 1 = (j : Int) from by omega, w64 (by omega) (by omega), Int.tmod_eq_emod_of_nonneg hc.1, wu64, wu64, wu64, Int.emod_eq_of_lt (a := 128 * valL ((b.take n).drop (j + 1))) (by omega) (by omega), Int.emod_eq_of_lt (a := rd b j % 128) (by omega) (by omega), Int.emod_eq_of_lt (by omega) (by omega), Int.add_comm]
theorem r01_ReadVar_l0 : ∀ (d : Nat) (b : List Int) (i : Nat), (∀ c ∈ b, 0 ≤ c ∧ c < 256) → b.length - i = d → i ≤ b.length → i ≤ 9 → b.length ≤ 140737488351232 →
    (∀ m v, readR i (b.drop i) = (v, m, 0) → valL (b.take (i + m.toNat)) < 18446744073709551616) →
    Ev (fun k => inquestref01_ReadVar.l0 k b ((i : Int) + 1)) (if (readR i (b.drop i)).2.2 = 0 then (valL (b.take (i + (readR i (b.drop i)).2.1.toNat)), i + (readR i (b.drop i)).2.1, 0) else (0, 0, (readR i (b.drop i)).2.2)) := by
  intro d
  induction d with
  | zero =>
    intro b i hb hd hi h9 hl hv
    rw [List.drop_of_length_le (by omega)]
    refine Ev.step (f := fun k => inquestref01_ReadVar.j1 k b ((i : Int) + 1) false) (fun k => ?_) ?_
    · simp only [inquestref01_ReadVar.l0]; rw [if_neg (by omega)]
    · refine Ev.step (f := fun _ => some (0, 0, 3)) (fun k => ?_) (Ev.now _)
      simp [inquestref01_ReadVar.j1]
  | succ d ih =>
    intro b i hb hd hi h9 hl hv
    have hc := hb _ (rd_mem b i (by omega))
    have hbd := readR_bd (b.drop i) i h9 (fun c hc => hb c (List.mem_of_mem_drop hc))
    rw [rd_drop b i (by omega)] at hbd hv ⊢
    have er : readR i (rd b i :: b.drop (i + 1)) = if i = 9 ∧ 1 < rd b i ∨ 0 < i ∧ rd b i = 0 then (0, 0, 4) else if rd b i < 128 then (rd b i, 1, 0) else
      if (readR (i + 1) (b.drop (i + 1))).2.2 = 0 then (rd b i - 128 + 128 * (readR (i + 1) (b.drop (i + 1))).1, (readR (i + 1) (b.drop (i + 1))).2.1 + 1, 0) else (0, 0, (readR (i + 1) (b.drop (i + 1))).2.2) := by rw [readR]
    refine Ev.step (f := fun k => inquestref01_ReadVar.j1 k b ((i : Int) + 1) true) (fun k => ?_) ?_
    · simp only [inquestref01_ReadVar.l0]; rw [if_pos (by omega), decide_eq_true (by omega)]
    refine Ev.step (f := fun k => inquestref01_ReadVar.j2 k b ((i : Int) + 1) (rd b i) (decide (i = 9 ∧ 1 < rd b i ∨ 0 < i ∧ rd b i = 0))) (fun k => ?_) ?_
    · simp only [inquestref01_ReadVar.j1]
      rw [if_pos trivial, w64 (i := (i : Int) + 1 - 1) (by omega) (by omega), show (i : Int) + 1 - 1 = i from by omega, if_pos (by omega), if_pos (by omega)]
      by_cases c9 : i = 9
      · rw [if_pos (by omega)]
        by_cases c1 : rd b i > 1
        · rw [if_pos c1, decide_eq_true (.inl ⟨c9, c1⟩)]
        · rw [if_neg c1, if_pos (by omega)]; congr 1
          by_cases c0 : rd b i = 0
          · rw [decide_eq_true (.inr ⟨by omega, c0⟩)]; simp [c0]
          · rw [decide_eq_false (by omega)]; simp [c0]
      · rw [if_neg (by omega)]
        by_cases c1 : 0 < i
        · rw [if_pos (by omega)]; congr 1
          by_cases c0 : rd b i = 0
          · rw [decide_eq_true (.inr ⟨by omega, c0⟩)]; simp [c0]
          · rw [decide_eq_false (by omega)]; simp [c0]
        · rw [if_neg (by omega), decide_eq_false (by omega)]
    by_cases f1 : i = 9 ∧ 1 < rd b i ∨ 0 < i ∧ rd b i = 0
    · rw [if_pos f1] at er
      rw [er, decide_eq_true f1]
      exact Ev.step (f := fun _ => some (0, 0, 4)) (fun k => by simp [inquestref01_ReadVar.j2]) (Ev.now _)
    · rw [if_neg f1] at er
      rw [decide_eq_false f1]
      by_cases f3 : rd b i < 128
      · rw [if_pos f3] at er
        rw [er]
        rw [er] at hv
        have hv := hv 1 _ rfl
        simp only [if_true]
        have g := r01_ReadVar_l1 (i + 1) b (i + 1) hb (by omega) hl (by omega) hv
        rw [List.drop_of_length_le (by simp; omega)] at g
        refine Ev.step (fun k => ?_) g
        simp only [inquestref01_ReadVar.j2]
        rw [if_neg (by simp), if_pos f3, w64 (by omega) (by omega)]; rfl
      · rw [if_neg f3] at er
        rw [er]
        rw [er] at hv
        have hr := readR_bd (b.drop (i + 1)) (i + 1) (by omega) (fun c hc => hb c (List.mem_of_mem_drop hc))
        have g := ih b (i + 1) hb (by omega) (by omega) (by omega) hl (fun m v hm => by
          rw [hm] at hv hr
          have := hv (m + 1) _ (if_pos rfl)
          rw [show i + 1 + m.toNat = i + (m + 1).toNat from by have := hr.2.2.1; simp only at this; omega]
          exact this)
        refine Ev.step (f := fun k => inquestref01_ReadVar.l0 k b (((i + 1 : Nat) : Int) + 1)) (fun k => ?_) ?_
        · simp only [inquestref01_ReadVar.j2]
          rw [if_neg (by simp), if_neg f3, w64 (by omega) (by omega)]; rfl
        · have fin : (if (readR (i + 1) (b.drop (i + 1))).2.2 = 0 then (valL (b.take (i + 1 + (readR (i + 1) (b.drop (i + 1))).2.1.toNat)), ((i + 1 : Nat) : Int) + (readR (i + 1) (b.drop (i + 1))).2.1, (0 : Int)) else (0, 0, (readR (i + 1) (b.drop (i + 1))).2.2)) = (if (if (readR (i + 1) (b.drop (i + 1))).2.2 = 0 then (rd b i - 128 + 128 * (readR (i + 1) (b.drop (i + 1))).1, (readR (i + 1) (b.drop (i + 1))).2.1 + 1, (0 : Int)) else (0, 0, (readR (i + 1) (b.drop (i + 1))).2.2)).2.2 = 0 then (valL (b.take (i + (if (readR (i + 1) (b.drop (i + 1))).2.2 = 0 then (rd b i - 128 + 128 * (readR (i + 1) (b.drop (i + 1))).1, (readR (i + 1) (b.drop (i + 1))).2.1 + 1, (0 : Int)) else (0, 0, (readR (i + 1) (b.drop (i + 1))).2.2)).2.1.toNat)), (i : Int) + (if (readR (i + 1) (b.drop (i + 1))).2.2 = 0 then (rd b i - 128 + 128 * (readR (i + 1) (b.drop (i + 1))).1, (readR (i + 1) (b.drop (i + 1))).2.1 + 1, (0 : Int)) else (0, 0, (readR (i + 1) (b.drop (i + 1))).2.2)).2.1, (0 : Int)) else (0, 0, (if (readR (i + 1) (b.drop (i + 1))).2.2 = 0 then (rd b i - 128 + 128 * (readR (i + 1) (b.drop (i + 1))).1, (readR (i + 1) (b.drop (i + 1))).2.1 + 1, (0 : Int)) else (0, 0, (readR (i + 1) (b.drop (i + 1))).2.2)).2.2)) := by
            have h0 := hr.2.2.1
            revert h0
            generalize readR (i + 1) (b.drop (i + 1)) = r
            intro h0
            by_cases h : r.2.2 = 0
            · simp only [if_pos h, if_true]
              rw [show i + 1 + r.2.1.toNat = i + (r.2.1 + 1).toNat from by omega]
              congr 2; omega
            · simp only [if_neg h]
          rw [fin] at g
          exact g
theorem r01_ReadVar_ev (b : List Int) (hb : ∀ c ∈ b, 0 ≤ c ∧ c < 256) (hl : b.length ≤ 140737488351232) : Ev (fun k => inquestref01_ReadVar.f k b) (readR 0 b) := by
  have d := readR_bd b 0 (by omega) hb
  have va := valL_readR b 0 (by omega) hb
  have g := r01_ReadVar_l0 b.length b 0 hb rfl (by omega) (by omega) hl (fun m v h => by
    rw [List.drop_zero] at h
    rw [h] at va d
    have := va rfl
    simp only [Nat.zero_add] at this ⊢
    rw [this]; have := d.2.1; simpa using this)
  rw [List.drop_zero] at g
  have e : (if (readR 0 b).2.2 = 0 then (valL (b.take (0 + (readR 0 b).2.1.toNat)), ((0 : Nat) : Int) + (readR 0 b).2.1, (0 : Int)) else (0, 0, (readR 0 b).2.2)) = readR 0 b := by
    rw [Nat.zero_add]
    by_cases c : (readR 0 b).2.2 = 0
    · rw [if_pos c, va c, ← c]; simp
    · rw [if_neg c, ← (d.2.2.2.2.2 c).1]; 
      rcases h : readR 0 b with ⟨v, n, e⟩
      rw [h] at d
      obtain ⟨rfl, rfl⟩ := d.2.2.2.2.2 (by rw [h] at c; exact c)
      rfl
  rw [e] at g
  exact g
theorem r01_Var_d (d : Nat) : ∀ (x : Int), 0 ≤ x → x < 18446744073709551616 → x < 128 ^ (d + 1) → d ≤ 20 → Ev (fun k => inquestref01_Var.f k x) (varL d x) := by
  induction d with
  | zero =>
    intro x h0 h1 hx _
    refine Ev.step (f := fun _ => some [x]) (fun k => ?_) (Ev.now _)
    simp only [inquestref01_Var.f]
    rw [if_pos (by simp at hx; omega), Int.emod_eq_of_lt h0 (by simp at hx; omega)]
  | succ d ih =>
    intro x h0 h1 hx hd
    have p : (128 : Int) ^ (d + 1 + 1) = 128 ^ (d + 1) * 128 := Int.pow_succ ..
    by_cases c : 128 ≤ x
    · rw [show varL (d + 1) x = (x % 128 + 128) :: varL d (x / 128) from by rw [varL, if_pos c]]
      have l := varL_len d (x / 128)
      refine Ev.step (f := fun k => (inquestref01_Var.f k (x / 128)).bind fun t134 => if ([x % 128 + 128] : List Int).length + t134.length < 140737488355328 then some ([x % 128 + 128] ++ t134) else none) (fun k => ?_) ?_
      · simp only [inquestref01_Var.f]
        rw [if_neg (by omega)]
        simp only [Option.bind_some]
        rw [Int.tdiv_eq_ediv_of_nonneg h0, Int.tmod_eq_emod_of_nonneg h0, wu64, wu64, Int.emod_eq_of_lt (a := x / 128) (by omega) (by omega), show (128 + x % 128) % 18446744073709551616 % 256 = x % 128 + 128 from by omega]
      · refine Ev.bind (f := fun _ t134 => if ([x % 128 + 128] : List Int).length + t134.length < 140737488355328 then some ([x % 128 + 128] ++ t134) else none) (ih (x / 128) (by omega) (by omega) (by omega) (by omega)) ?_
        exact Ev.congr (fun _ => if_pos (by simp; omega)) (Ev.now _)
    · rw [show varL (d + 1) x = [x] from by rw [varL, if_neg c]]
      refine Ev.step (f := fun _ => some [x]) (fun k => ?_) (Ev.now _)
      simp only [inquestref01_Var.f]
      rw [if_pos (by omega), Int.emod_eq_of_lt h0 (by omega)]
theorem r01_Var_ev (x : Int) (h0 : 0 ≤ x) (h1 : x < 18446744073709551616) : Ev (fun k => inquestref01_Var.f k x) (varL 9 x) :=
  r01_Var_d 9 x h0 h1 (u64_128 h1) (by omega)
theorem r01_Zig_is (x : Int) (h : -9223372036854775808 ≤ x) (h' : x ≤ 9223372036854775807) : inquestref01_Zig.f x = some (zigZ x) := by
  unfold inquestref01_Zig.f zigZ
  by_cases c : 0 ≤ x
  · rw [if_pos c, if_pos c]; simp only [wu64]; congr 1; omega
  · rw [if_neg c, if_neg c]; rw [w64 (i := x + 1) (by omega) (by omega), w64 (by omega) (by omega)]; simp only [wu64]; congr 1; omega
def offT : List Int := [0, 1, 1, 2, 0, 1, 0, 0, 2, 2, 2, 2, 2, 2, 2, 1, 0, 1, 1, 0]
def onT : List Int := [1, 0, 2, 2, 1, 0, 1, 1, 1, 1, 1, 1, 1, 1, 1, 1, 0, 0, 0, 0]
/-- How many numbers an instruction takes off, puts on. -/
def takesZ (a : Int) : Int := if 0 ≤ a ∧ a ≤ 19 then rd offT a else -1
def putsZ (a : Int) : Int := if 0 ≤ a ∧ a ≤ 19 then rd onT a else -1
theorem code_Takes_ev (a : Int) : Ev (fun k => code_Takes.f k a) (takesZ a) := by
  by_cases h : 0 ≤ a ∧ a ≤ 19
  · obtain ⟨n, rfl⟩ := Int.eq_ofNat_of_zero_le h.1
    have key : ∀ n : Nat, n < 20 → code_Takes.f 3 (n : Int) = some (takesZ n) := by decide +kernel
    exact Ev.of (code_Takes.mono _) (key n (by omega))
  · refine Ev.of (code_Takes.mono _) (k := 2) ?_
    unfold takesZ
    rw [if_neg h]
    unfold code_Takes.f
    rw [if_neg (by omega), if_neg (by omega), if_neg (by omega), if_neg (by omega), if_neg (by omega), show (a == 19) = false from beq_eq_false_iff_ne.mpr (by omega)]
    simp only [code_Takes.j0, show ¬ a = 1 from by omega, show ¬ a = 2 from by omega, show ¬ a = 5 from by omega, show ¬ a = 15 from by omega, show ¬ a = 17 from by omega, if_false, show (a == 18) = false from beq_eq_false_iff_ne.mpr (by omega)]
    simp [code_Takes.j1, show ¬ a = 3 from by omega, show ¬ a = 8 from by omega, show ¬ a = 9 from by omega, show ¬ a = 10 from by omega, show ¬ a = 11 from by omega, show ¬ a = 12 from by omega, show ¬ a = 13 from by omega, show ¬ a = 14 from by omega]
theorem code_Puts_ev (a : Int) : Ev (fun k => code_Puts.f k a) (putsZ a) := by
  by_cases h : 0 ≤ a ∧ a ≤ 19
  · obtain ⟨n, rfl⟩ := Int.eq_ofNat_of_zero_le h.1
    have key : ∀ n : Nat, n < 20 → code_Puts.f 3 (n : Int) = some (putsZ n) := by decide +kernel
    exact Ev.of (code_Puts.mono _) (key n (by omega))
  · refine Ev.of (code_Puts.mono _) (k := 2) ?_
    unfold putsZ
    rw [if_neg h]
    unfold code_Puts.f
    rw [if_neg (by omega), if_neg (by omega), if_neg (by omega), if_neg (by omega), if_neg (by omega), show (a == 19) = false from beq_eq_false_iff_ne.mpr (by omega)]
    simp only [code_Puts.j0, show ¬ a = 2 from by omega, if_false, show (a == 3) = false from beq_eq_false_iff_ne.mpr (by omega)]
    by_cases c : a < 0
    · simp [code_Puts.j1, c]
    · simp [code_Puts.j1, c, show a > 19 from by omega]
theorem lives15 : Ev (fun k => inquestlaw15_lives.f k) true :=
  Ev.of inquestlaw15_lives.mono (k := 12) (by decide +kernel)
/-- May an instruction be, in code of so many? -/
def canZ (n op N : Int) : Bool := if op = 0 then true else if op = 4 ∨ op = 5 then decide (0 ≤ N ∧ N < 4) else if op = 16 ∨ op = 17 then decide (0 ≤ N ∧ N < n) else decide (0 ≤ takesZ op ∧ N = 0)
/-- Where one goes on behind a place. -/
def nextZ (op N at_ : Int) : List Int := if op = 18 ∨ op = 19 then [] else if op = 16 then [N] else if op = 17 then [at_ + 1, N] else [at_ + 1]
/-- Places get a depth. -/
def leadsZ (n t : Int) : List Int → List Int → Int × List Int
  | [], dep => (0, dep)
  | q_ :: l, dep => if q_ = n then (6, dep) else if rd dep q_ < 0 then leadsZ n t l (dep.set q_.toNat t) else if rd dep q_ = t then leadsZ n t l dep else (16, dep)
/-- Through one place. -/
def passZ (L : List S39) (at_ : Int) (dep : List Int) : Int × List Int :=
  if rd dep at_ - takesZ (rd_T39 L at_).f0 < 0 then (3, dep)
  else if 8 < rd dep at_ - takesZ (rd_T39 L at_).f0 + putsZ (rd_T39 L at_).f0 then (11, dep)
  else leadsZ L.length (rd dep at_ - takesZ (rd_T39 L at_).f0 + putsZ (rd_T39 L at_).f0) (nextZ (rd_T39 L at_).f0 (rd_T39 L at_).f1 at_) dep
/-- Through all places, the least first. -/
def thruZ (L : List S39) : Nat → List Int → List Bool → Nat → List Int × Int × Int
  | 0, _, _, _ => ([], 0, 0)
  | f + 1, dep, done, at_ => if at_ < L.length then
      (if done.getD at_ false = true ∨ rd dep at_ < 0 then thruZ L f dep done (at_ + 1)
       else if (passZ L at_ dep).1 = 0 then thruZ L f (passZ L at_ dep).2 (done.set at_ true) 0 else ([], (at_ : Int), (passZ L at_ dep).1))
    else (dep, 0, 0)
/-- The first instruction that can't be. -/
def firstBad (n : Int) : List S39 → Nat → Option Nat
  | [], _ => none
  | x :: l, i => if canZ n x.f0 x.f1 = true then firstBad n l (i + 1) else some i
def thru (L : List S39) : List Int × Int × Int :=
  if L.length < 1 ∨ 200 < L.length then ([], 0, 5) else
    match firstBad L.length L 0 with
    | some i => ([], (i : Int), 15)
    | none => thruZ L ((L.length + 1) * (L.length + 2)) ((List.replicate L.length (-1)).set 0 0) (List.replicate L.length false) 0
theorem takesZ_bd (a : Int) : -1 ≤ takesZ a ∧ takesZ a ≤ 2 := by
  unfold takesZ
  split
  · rename_i h
    obtain ⟨n, rfl⟩ := Int.eq_ofNat_of_zero_le h.1
    have key : ∀ n : Nat, n < 20 → -1 ≤ rd offT (n : Int) ∧ rd offT (n : Int) ≤ 2 := by decide +kernel
    exact key n (by omega)
  · omega
theorem putsZ_bd (a : Int) : -1 ≤ putsZ a ∧ putsZ a ≤ 2 := by
  unfold putsZ
  split
  · rename_i h
    obtain ⟨n, rfl⟩ := Int.eq_ofNat_of_zero_le h.1
    have key : ∀ n : Nat, n < 20 → -1 ≤ rd onT (n : Int) ∧ rd onT (n : Int) ≤ 2 := by decide +kernel
    exact key n (by omega)
  · omega
theorem code_can_ev (op N n : Int) : Ev (fun k => code_can.f k op N n) (canZ n op N) := by
  have fin : Ev (fun k => (code_Takes.f k op).bind fun t => if t ≥ 0 then some (N == 0) else some false) (decide (0 ≤ takesZ op ∧ N = 0)) := by
    refine Ev.bind (code_Takes_ev op) ?_
    by_cases h : takesZ op ≥ 0
    · refine Ev.congr (fun k => if_pos h) ?_
      rw [show (decide (0 ≤ takesZ op ∧ N = 0)) = (N == 0) from by by_cases c : N = 0 <;> simp [c, h]]
      exact Ev.now _
    · refine Ev.congr (fun k => if_neg h) ?_
      rw [decide_eq_false (by omega)]; exact Ev.now _
  have j : ∀ b : Bool, b = decide (op = 4 ∨ op = 5) → op ≠ 0 → Ev (fun k => code_can.j0 k n op b op N) (canZ n op N) := by
    intro b hb h0
    unfold canZ
    rw [if_neg h0]
    by_cases c : op = 4 ∨ op = 5
    · rw [if_pos c]
      rw [decide_eq_true c] at hb; subst hb
      refine Ev.step (f := fun _ => some (decide (0 ≤ N ∧ N < 4))) (fun k => ?_) (Ev.now _)
      simp only [code_can.j0, if_true]
      by_cases c1 : N ≥ 0
      · rw [if_pos c1]; congr 1; rw [decide_eq_decide]; omega
      · rw [if_neg c1, decide_eq_false (by omega)]
    · rw [if_neg c]
      rw [decide_eq_false c] at hb; subst hb
      by_cases d : op = 16 ∨ op = 17
      · rw [if_pos d]
        refine Ev.step (f := fun _ => some (decide (0 ≤ N ∧ N < n))) (fun k => ?_) (Ev.now _)
        have e : (if N ≥ 0 then some (decide (N < n)) else some false) = some (decide (0 ≤ N ∧ N < n)) := by
          by_cases c1 : N ≥ 0
          · rw [if_pos c1]; congr 1; rw [decide_eq_decide]; omega
          · rw [if_neg c1, decide_eq_false (by omega)]
        simp only [code_can.j0]
        rw [if_neg (by simp), e]
        by_cases d1 : op = 16
        · rw [if_pos d1]
        · rw [if_neg d1, if_pos (by omega)]
      · rw [if_neg d]
        refine Ev.step (fun k => ?_) fin
        simp only [code_can.j0]
        rw [if_neg (by simp), if_neg (by omega), if_neg (by omega)]
  by_cases h0 : op = 0
  · refine Ev.congr (fun k => ?_) (Ev.now _)
    unfold code_can.f canZ; rw [if_pos h0, if_pos h0]
  · by_cases h4 : op = 4
    · exact Ev.congr (fun k => by unfold code_can.f; rw [if_neg h0, if_pos h4]) (j (op == 4) (by rw [decide_eq_true (.inl h4), h4]; rfl) h0)
    · exact Ev.congr (fun k => by unfold code_can.f; rw [if_neg h0, if_neg h4]) (j (op == 5) (by by_cases h5 : op = 5 <;> simp [h4, h5]) h0)
theorem code_next_ev (op N at_ : Int) (h0 : 0 ≤ at_) (h1 : at_ ≤ 1000) : Ev (fun k => code_next.f k op N at_) (nextZ op N at_) := by
  have w := w64 (i := at_ + 1) (by omega) (by omega)
  have j : ∀ b : Bool, b = decide (op = 18 ∨ op = 19) → Ev (fun k => code_next.j0 k at_ op b op N) (nextZ op N at_) := by
    intro b hb
    refine Ev.step (f := fun _ => some (nextZ op N at_)) (fun k => ?_) (Ev.now _)
    simp only [code_next.j0]
    unfold nextZ
    rw [w]
    by_cases c : op = 18 ∨ op = 19
    · rw [if_pos c, if_pos (by rw [hb]; exact decide_eq_true c)]
    · rw [if_neg c, if_neg (by rw [hb, decide_eq_false c]; simp)]
      by_cases c1 : op = 16
      · rw [if_pos c1, if_pos c1]
      · rw [if_neg c1, if_neg c1]
        by_cases c2 : op = 17
        · rw [if_pos c2, if_pos c2]
        · rw [if_neg c2, if_neg c2]
  by_cases h18 : op = 18
  · exact Ev.congr (fun k => by unfold code_next.f; rw [if_pos h18]) (j (op == 18) (by rw [decide_eq_true (.inl h18), h18]; rfl))
  · exact Ev.congr (fun k => by unfold code_next.f; rw [if_neg h18]) (j (op == 19) (by by_cases h : op = 19 <;> simp [h18, h]))
theorem code_pass_l0 (d : Nat) : ∀ (L : List S39) (dep : List Int) (t : Int) (l : List Int) (i : Nat), l.length - i = d → i ≤ l.length → l.length ≤ 2 → dep.length = L.length →
    (∀ q_ ∈ l, 0 ≤ q_ ∧ q_ ≤ L.length) → Ev (fun k => code_pass.l0 k L dep t l (l.length : Int) i) (leadsZ L.length t (l.drop i) dep) := by
  induction d with
  | zero =>
    intro L dep t l i hd hi hl hdl hto
    refine Ev.step (f := fun _ => some (0, dep)) (fun k => ?_) (by rw [List.drop_of_length_le (by omega)]; exact Ev.now _)
    simp only [code_pass.l0]; rw [if_neg (by omega)]
  | succ d ih =>
    intro L dep t l i hd hi hl hdl hto
    have e : l.drop i = rd l i :: l.drop (i + 1) := rd_drop l i (by omega)
    have ht := hto _ (rd_mem l i (by omega))
    rw [e, leadsZ]
    by_cases c : rd l i = (L.length : Int)
    · rw [if_pos c]
      refine Ev.step (f := fun _ => some (6, dep)) (fun k => ?_) (Ev.now _)
      simp only [code_pass.l0]; rw [if_pos (by omega), if_pos (by omega), if_pos (by omega), if_pos c]
    · rw [if_neg c]
      by_cases c1 : rd dep (rd l i) < 0
      · rw [if_pos c1]
        refine Ev.step (fun k => ?_) (ih L (dep.set (rd l i).toNat t) t l (i + 1) (by omega) (by omega) hl (by simpa using hdl) hto)
        simp only [code_pass.l0]; rw [if_pos (by omega), if_pos (by omega), if_pos (by omega), if_neg c, if_pos (by omega), if_pos (by omega), if_pos c1, w64 (by omega) (by omega)]; rfl
      · rw [if_neg c1]
        by_cases c2 : rd dep (rd l i) = t
        · rw [if_pos c2]
          refine Ev.step (fun k => ?_) (ih L dep t l (i + 1) (by omega) (by omega) hl hdl hto)
          simp only [code_pass.l0]; rw [if_pos (by omega), if_pos (by omega), if_pos (by omega), if_neg c, if_pos (by omega), if_pos (by omega), if_neg c1, if_pos c2, w64 (by omega) (by omega)]; rfl
        · rw [if_neg c2]
          refine Ev.step (f := fun _ => some (16, dep)) (fun k => ?_) (Ev.now _)
          simp only [code_pass.l0]; rw [if_pos (by omega), if_pos (by omega), if_pos (by omega), if_neg c, if_pos (by omega), if_pos (by omega), if_neg c1, if_neg c2]
theorem nextZ_len (op N at_ : Int) : (nextZ op N at_).length ≤ 2 := by
  unfold nextZ
  repeat' split
  all_goals simp
theorem nextZ_bd (op N at_ : Int) (n : Nat) (h : canZ n op N = true) (h0 : 0 ≤ at_) (h1 : at_ < n) : ∀ q_ ∈ nextZ op N at_, 0 ≤ q_ ∧ q_ ≤ n := by
  intro q_ ht
  unfold nextZ at ht
  unfold canZ at h
  split at ht
  · simp at ht
  · split at ht
    · rename_i c
      rw [if_neg (by omega), if_neg (by omega), if_pos (by omega)] at h
      have := of_decide_eq_true h
      have : q_ = N := by simpa using ht
      omega
    · split at ht
      · rename_i c
        rw [if_neg (by omega), if_neg (by omega), if_pos (by omega)] at h
        have := of_decide_eq_true h
        have : q_ = at_ + 1 ∨ q_ = N := by simpa using ht
        omega
      · have : q_ = at_ + 1 := by simpa using ht
        omega
theorem code_pass_ev (L : List S39) (at_ : Nat) (dep : List Int) (ha : at_ < L.length) (hl : L.length ≤ 300) (hd : dep.length = L.length) (hr : -1 ≤ rd dep at_ ∧ rd dep at_ ≤ 8)
    (hc : canZ L.length (rd_T39 L at_).f0 (rd_T39 L at_).f1 = true) : Ev (fun k => code_pass.f k L at_ dep) (passZ L at_ dep) := by
  have t := takesZ_bd (rd_T39 L at_).f0
  have p := putsZ_bd (rd_T39 L at_).f0
  unfold passZ
  refine Ev.congr (fun k => by unfold code_pass.f; rw [if_pos (by omega), if_pos (by omega), if_pos (by omega)]) ?_
  refine Ev.bind (code_Takes_ev _) ?_
  rw [w64 (i := rd dep at_ - takesZ (rd_T39 L at_).f0) (by omega) (by omega)]
  by_cases c : rd dep at_ - takesZ (rd_T39 L at_).f0 < 0
  · rw [if_pos c]; exact Ev.congr (fun k => if_pos c) (Ev.now _)
  · rw [if_neg c]; refine Ev.congr (fun k => if_neg c) ?_
    refine Ev.bind (code_Puts_ev _) ?_
    rw [w64 (by omega) (by omega)]
    by_cases c1 : 8 < rd dep at_ - takesZ (rd_T39 L at_).f0 + putsZ (rd_T39 L at_).f0
    · rw [if_pos c1]; exact Ev.congr (fun k => if_pos c1) (Ev.now _)
    · rw [if_neg c1]; refine Ev.congr (fun k => if_neg (by omega)) ?_
      refine Ev.bind (code_next_ev _ _ at_ (by omega) (by omega)) ?_
      have g := code_pass_l0 _ L dep (rd dep at_ - takesZ (rd_T39 L at_).f0 + putsZ (rd_T39 L at_).f0) (nextZ (rd_T39 L at_).f0 (rd_T39 L at_).f1 at_) 0 rfl (by omega) (nextZ_len _ _ _) hd (nextZ_bd _ _ _ L.length hc (by omega) (by omega))
      rw [List.drop_zero] at g
      exact g
/-- What a walk through code keeps. -/
structure Small (L : List S39) (dep : List Int) (done : List Bool) : Prop where
  dl : dep.length = L.length
  el : done.length = L.length
  lo : ∀ i, i < L.length → -1 ≤ rd dep i ∧ rd dep i ≤ 8
theorem rd_set (l : List Int) (i j : Nat) (v : Int) (h : i < l.length) : rd (l.set i v) j = if j = i then v else rd l j := by
  simp only [rd, Int.toNat_natCast, List.getD_eq_getElem?_getD]
  by_cases c : j = i
  · subst c; rw [if_pos rfl, List.getElem?_set_self h]; rfl
  · rw [if_neg c, List.getElem?_set_ne (by omega)]
theorem leadsZ_keeps (n : Nat) (t : Int) (h0 : 0 ≤ t) (h8 : t ≤ 8) : ∀ (l : List Int) (dep : List Int), dep.length = n → (∀ q_ ∈ l, 0 ≤ q_ ∧ q_ ≤ n) → (∀ i, i < n → -1 ≤ rd dep i ∧ rd dep i ≤ 8) →
    (leadsZ n t l dep).2.length = n ∧ (∀ i, i < n → -1 ≤ rd (leadsZ n t l dep).2 i ∧ rd (leadsZ n t l dep).2 i ≤ 8) ∧ (∀ i, i < n → 0 ≤ rd dep i → rd (leadsZ n t l dep).2 i = rd dep i) ∧
    ((leadsZ n t l dep).1 = 0 → ∀ q_ ∈ l, q_ < n ∧ rd (leadsZ n t l dep).2 q_ = t) := by
  intro l
  induction l with
  | nil => intro dep hd _ hr; exact ⟨hd, hr, fun _ _ _ => rfl, fun _ q_ hq => by simp at hq⟩
  | cons a l ih =>
    intro dep hd hq hr
    have ha := hq a (by simp)
    have hq' : ∀ q_ ∈ l, 0 ≤ q_ ∧ q_ ≤ n := fun q_ h => hq q_ (by simp [h])
    unfold leadsZ
    by_cases c : a = (n : Int)
    · rw [if_pos c]; exact ⟨hd, hr, fun _ _ _ => rfl, fun h => by simp at h⟩
    · rw [if_neg c]
      obtain ⟨m, rfl⟩ := Int.eq_ofNat_of_zero_le ha.1
      by_cases c1 : rd dep (m : Int) < 0
      · rw [if_pos c1]
        have hs (j : Nat) := rd_set dep m j t (by omega)
        obtain ⟨i1, i2, i3, i4⟩ := ih (dep.set m t) (by simpa using hd) hq' (fun i hi => by
          rw [hs]
          split
          · omega
          · exact hr i hi)
        rw [Int.toNat_natCast]
        refine ⟨i1, i2, fun i hi h => ?_, fun h q_ hq_ => ?_⟩
        · rw [i3 i hi (by rw [hs]; split <;> omega), hs, if_neg (by intro e; subst e; omega)]
        · rcases List.mem_cons.mp hq_ with rfl | hq_
          · exact ⟨by omega, by rw [i3 m (by omega) (by rw [hs, if_pos rfl]; exact h0), hs, if_pos rfl]⟩
          · exact i4 h q_ hq_
      · rw [if_neg c1]
        by_cases c2 : rd dep (m : Int) = t
        · rw [if_pos c2]
          obtain ⟨i1, i2, i3, i4⟩ := ih dep hd hq' hr
          refine ⟨i1, i2, i3, fun h q_ hq_ => ?_⟩
          rcases List.mem_cons.mp hq_ with rfl | hq_
          · exact ⟨by omega, by rw [i3 m (by omega) (by omega), c2]⟩
          · exact i4 h q_ hq_
        · rw [if_neg c2]; exact ⟨hd, hr, fun _ _ _ => rfl, fun h => by simp at h⟩
/-- A place that one has gone through. -/
def Closed (L : List S39) (dep : List Int) (i : Nat) : Prop :=
  0 ≤ rd dep i ∧ takesZ (rd_T39 L i).f0 ≤ rd dep i ∧ rd dep i - takesZ (rd_T39 L i).f0 + putsZ (rd_T39 L i).f0 ≤ 8 ∧
  ∀ q_ ∈ nextZ (rd_T39 L i).f0 (rd_T39 L i).f1 i, 0 ≤ q_ ∧ q_ < L.length ∧ rd dep q_ = rd dep i - takesZ (rd_T39 L i).f0 + putsZ (rd_T39 L i).f0
theorem putsZ_or (a : Int) : 0 ≤ a ∧ a ≤ 19 → 0 ≤ putsZ a ∧ 0 ≤ takesZ a := by
  intro h
  unfold putsZ takesZ
  rw [if_pos h, if_pos h]
  obtain ⟨n, rfl⟩ := Int.eq_ofNat_of_zero_le h.1
  have key : ∀ n : Nat, n < 20 → 0 ≤ rd onT (n : Int) ∧ 0 ≤ rd offT (n : Int) := by decide +kernel
  exact key n (by omega)
theorem canZ_op (n op N : Int) (h : canZ n op N = true) : 0 ≤ op ∧ op ≤ 19 := by
  unfold canZ at h
  split at h
  · omega
  · split at h
    · omega
    · split at h
      · omega
      · have := of_decide_eq_true h
        unfold takesZ at this
        split at this
        · omega
        · omega
theorem passZ_keeps (L : List S39) (at_ : Nat) (dep : List Int) (ha : at_ < L.length) (hd : dep.length = L.length) (hr : ∀ i, i < L.length → -1 ≤ rd dep i ∧ rd dep i ≤ 8)
    (hc : canZ L.length (rd_T39 L at_).f0 (rd_T39 L at_).f1 = true) (h0 : 0 ≤ rd dep at_) :
    (passZ L at_ dep).2.length = L.length ∧ (∀ i, i < L.length → -1 ≤ rd (passZ L at_ dep).2 i ∧ rd (passZ L at_ dep).2 i ≤ 8) ∧ (∀ i, i < L.length → 0 ≤ rd dep i → rd (passZ L at_ dep).2 i = rd dep i) ∧
    ((passZ L at_ dep).1 = 0 → Closed L (passZ L at_ dep).2 at_) := by
  have p := putsZ_or _ (canZ_op _ _ _ hc)
  unfold passZ
  by_cases c : rd dep at_ - takesZ (rd_T39 L at_).f0 < 0
  · rw [if_pos c]; exact ⟨hd, hr, fun _ _ _ => rfl, fun h => by simp at h⟩
  · rw [if_neg c]
    by_cases c1 : 8 < rd dep at_ - takesZ (rd_T39 L at_).f0 + putsZ (rd_T39 L at_).f0
    · rw [if_pos c1]; exact ⟨hd, hr, fun _ _ _ => rfl, fun h => by simp at h⟩
    · rw [if_neg c1]
      have bd := nextZ_bd _ _ at_ L.length hc (by omega) (by omega)
      obtain ⟨i1, i2, i3, i4⟩ := leadsZ_keeps L.length (rd dep at_ - takesZ (rd_T39 L at_).f0 + putsZ (rd_T39 L at_).f0) (by omega) (by omega) (nextZ (rd_T39 L at_).f0 (rd_T39 L at_).f1 at_) dep hd bd hr
      refine ⟨i1, i2, i3, fun h => ?_⟩
      have e := i3 at_ ha h0
      unfold Closed
      rw [e]
      exact ⟨h0, by omega, by omega, fun q_ hq => ⟨(bd q_ hq).1, (i4 h q_ hq).1, (i4 h q_ hq).2⟩⟩
theorem Closed_keeps (L : List S39) (dep dep' : List Int) (i : Nat) (hi : i < L.length) (h : Closed L dep i) (hk : ∀ j, j < L.length → 0 ≤ rd dep j → rd dep' j = rd dep j)
    (hnn : 0 ≤ rd dep i - takesZ (rd_T39 L i).f0 + putsZ (rd_T39 L i).f0) : Closed L dep' i := by
  obtain ⟨a, b, c, d⟩ := h
  unfold Closed
  rw [hk i hi a]
  refine ⟨a, b, c, fun q_ hq => ?_⟩
  obtain ⟨q0, q1, q2⟩ := d q_ hq
  obtain ⟨m, rfl⟩ := Int.eq_ofNat_of_zero_le q0
  exact ⟨q0, q1, by rw [hk m (by omega) (by omega), q2]⟩
def undone (done : List Bool) : Nat := (done.filter (fun b => !b)).length
theorem undone_set : ∀ (done : List Bool) (i : Nat), i < done.length → done.getD i false = false → undone (done.set i true) + 1 = undone done
  | [], i, h, _ => by simp at h
  | b :: l, 0, _, h => by
    have : b = false := by simpa using h
    subst this; simp [undone]
  | b :: l, i + 1, h, hb => by
    have := undone_set l i (by simpa using h) (by simpa using hb)
    unfold undone at this ⊢
    rw [List.set_cons_succ]
    cases b <;> simp [List.filter_cons] at this ⊢ <;> omega
theorem undone_le (done : List Bool) : undone done ≤ done.length := List.length_filter_le _ _
theorem rdOf_getD (done : List Bool) (i : Nat) : rdOf false done (i : Int) = done.getD i false := by unfold rdOf; rw [Int.toNat_natCast]
/-- All that may be asked of code: its places can be. -/
def Cans (L : List S39) : Prop := ∀ i : Nat, i < L.length → canZ L.length (rd_T39 L i).f0 (rd_T39 L i).f1 = true
theorem code_through_l1 (L : List S39) (hl : L.length ≤ 300) (hc : Cans L) (f : Nat) : ∀ (dep : List Int) (done : List Bool) (at_ : Nat), Small L dep done → at_ ≤ L.length →
    (undone done) * (L.length + 1) + (L.length - at_) < f → Ev (fun k => code_through.l1 k L dep done at_) (thruZ L f dep done at_) := by
  induction f with
  | zero => intro dep done at_ _ _ h; omega
  | succ f ih =>
    intro dep done at_ sm ha hf
    obtain ⟨dl, el, lo⟩ := sm
    unfold thruZ
    by_cases c : at_ < L.length
    · rw [if_pos c]
      have go : Ev (fun k => code_through.j3 k L dep done at_ (decide (done.getD at_ false = true ∨ rd dep at_ < 0))) (if done.getD at_ false = true ∨ rd dep at_ < 0 then thruZ L f dep done (at_ + 1) else if (passZ L at_ dep).1 = 0 then thruZ L f (passZ L at_ dep).2 (done.set at_ true) 0 else ([], (at_ : Int), (passZ L at_ dep).1)) := by
        by_cases c1 : done.getD at_ false = true ∨ rd dep at_ < 0
        · rw [if_pos c1, decide_eq_true c1]
          refine Ev.step (fun k => ?_) (ih dep done (at_ + 1) ⟨dl, el, lo⟩ (by omega) (by omega))
          simp only [code_through.j3, if_true]
          rw [w64 (by omega) (by omega)]; rfl
        · rw [if_neg c1, decide_eq_false c1]
          have hd0 : done.getD at_ false = false := by
            cases h : done.getD at_ false
            · rfl
            · exact absurd (.inl h) c1
          have h0 : 0 ≤ rd dep at_ := by
            apply Int.not_lt.mp; intro h; exact c1 (.inr h)
          have pe := code_pass_ev L at_ dep c hl dl (lo at_ c) (hc at_ c)
          obtain ⟨k1, k2, k3, k4⟩ := passZ_keeps L at_ dep c dl lo (hc at_ c) h0
          refine Ev.step (f := fun k => (code_pass.f k L at_ dep).bind fun bt154 => (if bt154.1 = 0 then (code_through.l1 k L bt154.2 (done.set (at_ : Int).toNat true) 0) else (some (([] : List Int), (at_ : Int), bt154.1)))) (fun k => ?_) ?_
          · simp only [code_through.j3]
            rw [if_neg (by simp), if_pos (by omega), if_pos (by omega)]
          · refine Ev.bind pe ?_
            by_cases c2 : (passZ L at_ dep).1 = 0
            · rw [if_pos c2]
              refine Ev.congr (fun k => if_pos c2) ?_
              rw [Int.toNat_natCast]
              have us := undone_set done at_ (by omega) hd0
              have g := ih (passZ L at_ dep).2 (done.set at_ true) 0 ⟨k1, by simpa using el, k2⟩ (by omega) (by
                have : undone done * (L.length + 1) = undone (done.set at_ true) * (L.length + 1) + (L.length + 1) := by rw [← us, Nat.add_mul, Nat.one_mul]
                omega)
              exact g
            · rw [if_neg c2]
              exact Ev.congr (fun k => if_neg c2) (Ev.now _)
      refine Ev.step (fun k => ?_) go
      simp only [code_through.l1]
      rw [if_pos (by omega), if_pos (by omega), if_pos (by omega), rdOf_getD]
      by_cases cd : done.getD at_ false = true
      · rw [if_pos cd, decide_eq_true (.inl cd)]
      · rw [if_neg cd, if_pos (by omega)]
        congr 1
        rw [decide_eq_decide]
        exact ⟨.inr, fun h => h.resolve_left cd⟩
    · rw [if_neg c]
      refine Ev.step (f := fun _ => some (dep, 0, 0)) (fun k => ?_) (Ev.now _)
      simp only [code_through.l1]; rw [if_neg (by omega)]
theorem code_through_l0 (d : Nat) : ∀ (L : List S39) (dep : List Int) (done : List Bool) (i : Nat), L.length ≤ 300 → L.length - i = d → i ≤ L.length → dep.length = L.length → 0 < L.length →
    (∃ j, firstBad L.length (L.drop i) i = some j ∧ Ev (fun k => code_through.l0 k L dep done L (L.length : Int) i) ([], (j : Int), 15)) ∨
    (firstBad L.length (L.drop i) i = none ∧ ∀ r, Ev (fun k => code_through.l1 k L (((dep.take i) ++ List.replicate (L.length - i) (-1)).set 0 0) done 0) r → Ev (fun k => code_through.l0 k L dep done L (L.length : Int) i) r) := by
  induction d with
  | zero =>
    intro L dep done i hl hd hi hdl hp
    refine .inr ⟨by rw [List.drop_of_length_le (by omega)]; rfl, fun r hr => ?_⟩
    rw [List.take_of_length_le (by omega), hd, List.replicate_zero, List.append_nil] at hr
    refine Ev.step (fun k => ?_) hr
    simp only [code_through.l0]; rw [if_neg (by omega), if_pos (by omega)]; rfl
  | succ d ih =>
    intro L dep done i hl hd hi hdl hp
    have e : L.drop i = rd_T39 L i :: L.drop (i + 1) := by
      rw [List.drop_eq_getElem_cons (by omega)]; congr 1; simp [rd_T39, List.getElem?_eq_getElem (show i < L.length by omega)]
    rw [e, firstBad]
    have can := code_can_ev (rd_T39 L i).f0 (rd_T39 L i).f1 L.length
    have step : ∀ r, Ev (fun k => if canZ L.length (rd_T39 L i).f0 (rd_T39 L i).f1 = true then (if (i : Int) < (dep.length : Int) then (code_through.l0 k L (dep.set (i : Int).toNat (-1)) done L (L.length : Int) (wrap64 ((i : Int) + 1))) else (none)) else (some (([] : List Int), (i : Int), 15))) r → Ev (fun k => code_through.l0 k L dep done L (L.length : Int) i) r := by
      intro r hr
      refine Ev.step (f := fun k => (code_can.f k ((rd_T39 L i).f0) ((rd_T39 L i).f1) (L.length : Int)).bind fun t148 => (if t148 = true then (if (i : Int) < (dep.length : Int) then (code_through.l0 k L (dep.set (i : Int).toNat (-1)) done L (L.length : Int) (wrap64 ((i : Int) + 1))) else (none)) else (some (([] : List Int), (i : Int), 15)))) (fun k => ?_) (Ev.bind can hr)
      simp only [code_through.l0]; rw [if_pos (by omega), if_pos (by omega), if_pos (by omega)]
    by_cases c : canZ L.length (rd_T39 L i).f0 (rd_T39 L i).f1 = true
    · rw [if_pos c]
      have pass : ∀ r, Ev (fun k => code_through.l0 k L (dep.set i (-1)) done L (L.length : Int) ((i + 1 : Nat) : Int)) r → Ev (fun k => code_through.l0 k L dep done L (L.length : Int) i) r := by
        intro r hr
        refine step r (Ev.congr (fun k => ?_) hr)
        rw [if_pos c, if_pos (by omega), w64 (by omega) (by omega), Int.toNat_natCast]; rfl
      rcases ih L (dep.set i (-1)) done (i + 1) hl (by omega) (by omega) (by simpa using hdl) hp with h | ⟨h1, h2⟩
      · obtain ⟨j, hj, hh⟩ := h
        exact .inl ⟨j, hj, pass _ hh⟩
      · refine .inr ⟨h1, fun r hr => pass r (h2 r ?_)⟩
        have : (dep.set i (-1)).take (i + 1) ++ List.replicate (L.length - (i + 1)) (-1) = dep.take i ++ List.replicate (L.length - i) (-1) := by
          rw [show L.length - i = (L.length - (i + 1)) + 1 from by omega, List.replicate_succ, List.take_succ_eq_append_getElem (by simp; omega), List.getElem_set_self, List.take_set_of_le (by omega)]
          simp
        rw [this]; exact hr
    · rw [if_neg c]
      exact .inl ⟨i, rfl, step _ (Ev.congr (fun k => if_neg c) (Ev.now _))⟩
theorem firstBad_none (n : Int) : ∀ (l : List S39) (i : Nat), firstBad n l i = none → ∀ x ∈ l, canZ n x.f0 x.f1 = true
  | [], _, _, x, hx => by simp at hx
  | y :: l, i, h, x, hx => by
    unfold firstBad at h
    split at h
    · rename_i c
      rcases List.mem_cons.mp hx with rfl | hx
      · exact c
      · exact firstBad_none n l (i + 1) h x hx
    · simp at h
theorem rdT_mem (L : List S39) (i : Nat) (h : i < L.length) : rd_T39 L i ∈ L := by simp [rd_T39, List.getElem?_eq_getElem h]
theorem Cans_of (L : List S39) (h : firstBad L.length L 0 = none) : Cans L := fun i hi => firstBad_none _ L 0 h _ (rdT_mem L i hi)
theorem firstBad_some (n : Int) : ∀ (l : List S39) (i j : Nat), firstBad n l i = some j → i ≤ j ∧ j < i + l.length
  | [], _, _, h => by simp [firstBad] at h
  | y :: l, i, j, h => by
    unfold firstBad at h
    split at h
    · have := firstBad_some n l (i + 1) j h
      rw [List.length_cons]; omega
    · have : i = j := by simpa using h
      rw [List.length_cons]; omega
theorem start_small (L : List S39) (h : 0 < L.length) : Small L ((List.replicate L.length (-1)).set 0 0) (List.replicate L.length false) := by
  refine ⟨by simp, by simp, fun i hi => ?_⟩
  rw [show (i : Int) = ((i : Nat) : Int) from rfl, rd_set _ 0 i 0 (by simpa using h)]
  split
  · omega
  · simp [rd, List.getElem?_replicate, hi]
theorem code_through_ev (L : List S39) (hl : L.length ≤ 300) : Ev (fun k => code_through.f k L) (thru L) := by
  unfold thru
  by_cases c : L.length < 1 ∨ 200 < L.length
  · rw [if_pos c]
    have j : Ev (fun k => code_through.j0 k L true) ([], 0, 5) := Ev.step (f := fun _ => some ([], 0, 5)) (fun k => by simp [code_through.j0]) (Ev.now _)
    by_cases c1 : L.length < 1
    · exact Ev.congr (fun k => by unfold code_through.f; rw [if_pos (by omega)]) j
    · refine Ev.congr (fun k => ?_) j
      unfold code_through.f; rw [if_neg (by omega), decide_eq_true (by omega)]
  · rw [if_neg c]
    have start : ∀ r, Ev (fun k => code_through.l0 k L (List.replicate L.length 0) (List.replicate L.length false) L (L.length : Int) ((0 : Nat) : Int)) r → Ev (fun k => code_through.f k L) r := by
      intro r hr
      refine Ev.step (fun k => ?_) hr
      unfold code_through.f
      rw [if_neg (by omega), decide_eq_false (by omega)]
      simp only [code_through.j0]
      rw [if_neg (by simp), if_pos (by omega), if_pos (by omega), if_pos (by omega), Int.toNat_natCast]; rfl
    rcases code_through_l0 L.length L (List.replicate L.length 0) (List.replicate L.length false) 0 hl rfl (by omega) (by simp) (by omega) with h | ⟨h1, h2⟩
    · obtain ⟨j, hj, hh⟩ := h
      rw [List.drop_zero] at hj
      rw [hj]; exact start _ hh
    · rw [List.drop_zero] at h1
      rw [h1]
      refine start _ (h2 _ ?_)
      rw [List.take_zero, List.nil_append, Nat.sub_zero]
      refine code_through_l1 L hl (Cans_of L h1) _ _ _ 0 (start_small L (by omega)) (by omega) ?_
      have := undone_le (List.replicate L.length false)
      rw [List.length_replicate] at this
      have h3 : undone (List.replicate L.length false) * (L.length + 1) ≤ L.length * (L.length + 1) := Nat.mul_le_mul_right _ this
      have h4 : (L.length + 1) * (L.length + 2) = L.length * (L.length + 1) + 2 * (L.length + 1) := by rw [Nat.mul_comm, Nat.add_mul]
      omega
/-- What holds of the depths of code that fits together. -/
structure Good (L : List S39) (r : List Int) : Prop where
  len : r.length = L.length
  pos : 0 < L.length
  most : L.length ≤ 200
  cans : Cans L
  zero : rd r 0 = 0
  lo : ∀ i : Nat, i < L.length → -1 ≤ rd r i ∧ rd r i ≤ 8
  closed : ∀ i : Nat, i < L.length → 0 ≤ rd r i → Closed L r i
theorem Closed_nn (L : List S39) (hc : Cans L) (dep : List Int) (i : Nat) (hi : i < L.length) (h : Closed L dep i) : 0 ≤ rd dep i - takesZ (rd_T39 L i).f0 + putsZ (rd_T39 L i).f0 := by
  have p := putsZ_or _ (canZ_op _ _ _ (hc i hi))
  have := h.2.1
  omega
theorem thruZ_good (L : List S39) (hl : L.length ≤ 200) (h0 : 0 < L.length) (hc : Cans L) (f : Nat) : ∀ (dep : List Int) (done : List Bool) (at_ : Nat), Small L dep done → at_ ≤ L.length →
    (undone done) * (L.length + 1) + (L.length - at_) < f → (∀ p : Nat, p < L.length → done.getD p false = true → Closed L dep p) → (∀ p : Nat, p < at_ → done.getD p false = true ∨ rd dep p < 0) → rd dep 0 = 0 →
    (thruZ L f dep done at_).2.2 = 0 → Good L (thruZ L f dep done at_).1 := by
  induction f with
  | zero => intro dep done at_ _ _ h; omega
  | succ f ih =>
    intro dep done at_ sm ha hf hcl hbe hz he
    obtain ⟨dl, el, lo⟩ := sm
    unfold thruZ at he ⊢
    by_cases c : at_ < L.length
    · rw [if_pos c] at he ⊢
      by_cases c1 : done.getD at_ false = true ∨ rd dep at_ < 0
      · rw [if_pos c1] at he ⊢
        exact ih dep done (at_ + 1) ⟨dl, el, lo⟩ (by omega) (by omega) hcl (fun p hp => by
          by_cases e : p = at_
          · subst e; exact c1
          · exact hbe p (by omega)) hz he
      · rw [if_neg c1] at he ⊢
        have hd0 : done.getD at_ false = false := by
          cases h : done.getD at_ false
          · rfl
          · exact absurd (.inl h) c1
        have h0' : 0 ≤ rd dep at_ := by
          apply Int.not_lt.mp; intro h; exact c1 (.inr h)
        obtain ⟨k1, k2, k3, k4⟩ := passZ_keeps L at_ dep c dl lo (hc at_ c) h0'
        by_cases c2 : (passZ L at_ dep).1 = 0
        · rw [if_pos c2] at he ⊢
          have us := undone_set done at_ (by omega) hd0
          refine ih _ _ 0 ⟨k1, by simpa using el, k2⟩ (by omega) (by
            have : undone done * (L.length + 1) = undone (done.set at_ true) * (L.length + 1) + (L.length + 1) := by rw [← us, Nat.add_mul, Nat.one_mul]
            omega) (fun p hp hd => ?_) (fun p hp => by omega) (by have h := k3 0 h0 (by simp [hz]); simpa [hz] using h) he
          by_cases e : p = at_
          · subst e; exact k4 c2
          · have hd' : done.getD p false = true := by
              rw [List.getD_eq_getElem?_getD, List.getElem?_set_ne (by omega), ← List.getD_eq_getElem?_getD] at hd
              exact hd
            have cl := hcl p hp hd'
            exact Closed_keeps L dep _ p hp cl k3 (Closed_nn L hc dep p hp cl)
        · rw [if_neg c2] at he
          exact absurd he c2
    · rw [if_neg c] at he ⊢
      refine ⟨dl, h0, hl, hc, hz, lo, fun i hi h => ?_⟩
      rcases hbe i (by omega) with h1 | h1
      · exact hcl i hi h1
      · exact absurd h (by simp only; omega)
theorem thru_good (L : List S39) (h : (thru L).2.2 = 0) : Good L (thru L).1 := by
  unfold thru at h ⊢
  split at h
  · simp at h
  · rename_i c
    rw [if_neg c]
    cases hb : firstBad L.length L 0 with
    | some j => rw [hb] at h; simp at h
    | none =>
      rw [hb] at h
      refine thruZ_good L (by omega) (by omega) (Cans_of L hb) _ _ _ 0 (start_small L (by omega)) (by omega) ?_ (fun p hp hd => ?_) (fun p hp => by omega) ?_ h
      · have := undone_le (List.replicate L.length false)
        rw [List.length_replicate] at this
        have h3 : undone (List.replicate L.length false) * (L.length + 1) ≤ L.length * (L.length + 1) := Nat.mul_le_mul_right _ this
        have h4 : (L.length + 1) * (L.length + 2) = L.length * (L.length + 1) + 2 * (L.length + 1) := by rw [Nat.mul_comm, Nat.add_mul]
        omega
      · simp [List.getD_eq_getElem?_getD, List.getElem?_replicate, hp] at hd
      · have := rd_set (List.replicate L.length (-1)) 0 0 0 (by simp; omega)
        simpa using this
theorem thruZ_err (L : List S39) (f : Nat) : ∀ (dep : List Int) (done : List Bool) (at_ : Nat), (thruZ L f dep done at_).2.2 ≠ 0 → (thruZ L f dep done at_).1 = [] := by
  induction f with
  | zero => intro dep done at_ h; simp [thruZ] at h
  | succ f ih =>
    intro dep done at_ h
    unfold thruZ at h ⊢
    split at h
    · rename_i c
      rw [if_pos c]
      split at h
      · rename_i c1; rw [if_pos c1]; exact ih _ _ _ h
      · rename_i c1; rw [if_neg c1]
        split at h
        · rename_i c2; rw [if_pos c2]; exact ih _ _ _ h
        · rename_i c2; rw [if_neg c2]
    · simp at h
theorem thru_err (L : List S39) (h : (thru L).2.2 ≠ 0) : (thru L).1 = [] := by
  unfold thru at h ⊢
  split at h
  · rename_i c; rw [if_pos c]
  · rename_i c
    rw [if_neg c]
    cases hb : firstBad L.length L 0 with
    | some j => rfl
    | none => rw [hb] at h; exact thruZ_err L _ _ _ _ h
theorem code_Check_ev (L : List S39) (hl : L.length ≤ 300) : Ev (fun k => code_Check.f k L) ((thru L).2.1, (thru L).2.2) := Ev.bind (code_through_ev L hl) (Ev.now _)
theorem few15 (l : List S39) (h : l.length ≤ maxLen) : inquestref15_Few.f l = some (l.take 210) := by
  unfold inquestref15_Few.f
  have e : ([] : List S39).length = 0 := rfl
  by_cases c : l.length ≤ 210
  · rw [if_neg (by omega), if_pos (by rw [e]; omega), List.take_of_length_le c]; rfl
  · rw [if_pos (by omega), if_pos (by omega)]
    simp only [Option.bind_some]
    rw [if_pos (by rw [e, List.length_take]; omega)]; rfl
/-- Does an instruction say a number? -/
def saysZ (op : Int) : Bool := decide (op = 0 ∨ op = 4 ∨ op = 5 ∨ op = 16 ∨ op = 17)
theorem says_is (op : Int) : code_says.f op = some (saysZ op) := by
  unfold code_says.f saysZ
  by_cases c0 : op = 0
  · rw [if_pos c0, decide_eq_true (.inl c0)]
  · rw [if_neg c0]
    by_cases c4 : op = 4
    · rw [if_pos c4, decide_eq_true (.inr (.inl c4))]
    · rw [if_neg c4]
      by_cases c5 : op = 5
      · rw [if_pos c5, decide_eq_true (.inr (.inr (.inl c5)))]
      · rw [if_neg c5]
        by_cases c16 : op = 16
        · rw [if_pos c16, decide_eq_true (.inr (.inr (.inr (.inl c16))))]
        · rw [if_neg c16]
          by_cases c17 : op = 17
          · simp [c17]
          · simp [c0, c4, c5, c16, c17]
/-- An instruction's text. -/
def insT (x : S39) : List Int := (x.f0 % 256) :: (if saysZ x.f0 = true then varL 9 (zigZ x.f1) else [])
def textT (L : List S39) : List Int := varL 9 L.length ++ L.flatMap insT
def WfIns (x : S39) : Prop := (-9223372036854775808 ≤ x.f0 ∧ x.f0 ≤ 9223372036854775807) ∧ -9223372036854775808 ≤ x.f1 ∧ x.f1 ≤ 9223372036854775807
theorem wf_ins {l : List S39} (h : ∀ x ∈ l, (Lit.int .i64 x.f0).wf = true ∧ (Lit.int .i64 x.f1).wf = true) : ∀ x ∈ l, WfIns x := fun x hx => ⟨wf_i64 (h x hx).1, wf_i64 (h x hx).2⟩
theorem insT_len (x : S39) : 1 ≤ (insT x).length ∧ (insT x).length ≤ 11 := by
  unfold insT
  have := varL_len 9 (zigZ x.f1)
  split <;> simp <;> omega
theorem flat_len : ∀ (L : List S39), (L.flatMap insT).length ≤ 11 * L.length
  | [] => by simp
  | x :: l => by have := insT_len x; have := flat_len l; simp only [List.flatMap_cons, List.length_append, List.length_cons]; omega
theorem code_Encode_l0 (d : Nat) : ∀ (L : List S39) (acc : List Int) (i : Nat), (∀ x ∈ L, WfIns x) → L.length - i = d → i ≤ L.length → L.length ≤ 300 → acc.length ≤ 10 + 11 * i →
    Ev (fun k => code_Encode.l0 k acc L (L.length : Int) i) (acc ++ (L.drop i).flatMap insT, 0) := by
  induction d with
  | zero =>
    intro L acc i hw hd hi hl ha
    refine Ev.step (f := fun _ => some (acc, 0)) (fun k => ?_) (by rw [List.drop_of_length_le (by omega)]; simpa using Ev.now _)
    simp only [code_Encode.l0]; rw [if_neg (by omega)]
  | succ d ih =>
    intro L acc i hw hd hi hl ha
    have e : L.drop i = rd_T39 L i :: L.drop (i + 1) := by
      rw [List.drop_eq_getElem_cons (by omega)]; congr 1; simp [rd_T39, List.getElem?_eq_getElem (show i < L.length by omega)]
    have wf := hw _ (rdT_mem L i (by omega))
    have il := insT_len (rd_T39 L i)
    have g := ih L (acc ++ insT (rd_T39 L i)) (i + 1) hw (by omega) (by omega) hl (by rw [List.length_append]; omega)
    rw [e, List.flatMap_cons, ← List.append_assoc]
    have w := w64 (i := (i : Int) + 1) (by omega) (by omega)
    by_cases c : saysZ (rd_T39 L i).f0 = true
    · have ie : insT (rd_T39 L i) = [(rd_T39 L i).f0 % 256] ++ varL 9 (zigZ (rd_T39 L i).f1) := by unfold insT; rw [if_pos c]; rfl
      have zb := zig_lo _ wf.2.1 wf.2.2
      refine Ev.step (f := fun k => (word_Var.f k (zigZ (rd_T39 L i).f1)).bind fun t197 => if (acc ++ [(rd_T39 L i).f0 % 256]).length + t197.length < 140737488355328 then code_Encode.l0 k ((acc ++ [(rd_T39 L i).f0 % 256]) ++ t197) L (L.length : Int) (wrap64 ((i : Int) + 1)) else none) (fun k => ?_) ?_
      · simp only [code_Encode.l0]
        rw [if_pos (by omega), if_pos (by omega), if_pos (by omega), if_pos (by omega)]
        simp only [Option.bind_some, says_is, c, if_true, word_Zig_is _ wf.2.1 wf.2.2]
      · refine Ev.bind (word_Var_ev _ zb.1 zb.2) ?_
        have vl := varL_len 9 (zigZ (rd_T39 L i).f1)
        refine Ev.congr (fun k => ?_) g
        rw [if_pos (by rw [List.length_append, List.length_singleton]; omega), w, ie, List.append_assoc]; rfl
    · have ie : insT (rd_T39 L i) = [(rd_T39 L i).f0 % 256] := by unfold insT; rw [if_neg c]
      refine Ev.step (fun k => ?_) g
      simp only [code_Encode.l0]
      rw [if_pos (by omega), if_pos (by omega), if_pos (by omega), if_pos (by omega)]
      simp only [Option.bind_some, says_is]
      rw [if_neg c, w, ie]; rfl
/-- What Encode answers. -/
def encA (L : List S39) : List Int × Int := if (thru L).2.2 = 0 then (textT L, 0) else ([], (thru L).2.2)
theorem code_Encode_ev (L : List S39) (hl : L.length ≤ 300) (hw : ∀ x ∈ L, WfIns x) : Ev (fun k => code_Encode.f k L) (encA L) := by
  unfold encA
  refine Ev.bind (code_Check_ev L hl) ?_
  by_cases c : (thru L).2.2 = 0
  · rw [if_pos c]
    refine Ev.congr (fun k => if_pos c) ?_
    rw [wu64, Int.emod_eq_of_lt (by omega) (by omega)]
    refine Ev.bind (word_Var_ev _ (by omega) (by omega)) ?_
    have vl := varL_len 9 (L.length : Int)
    have g := code_Encode_l0 L.length L (varL 9 (L.length : Int)) 0 hw rfl (by omega) hl (by omega)
    rw [List.drop_zero] at g
    exact g
  · rw [if_neg c]
    exact Ev.congr (fun k => if_neg c) (Ev.now _)
theorem same15_l0 (d : Nat) : ∀ (a b : List S39) (i : Nat), a.length = b.length → a.length ≤ 9223372036854775806 → a.length - i = d → i ≤ a.length → a = b →
    Ev (fun k => inquestref15_Same.l0 k a b i) true := by
  induction d with
  | zero =>
    intro a b i h hl hd hi hab
    refine Ev.step (f := fun _ => some true) (fun k => ?_) (Ev.now _)
    simp only [inquestref15_Same.l0]; rw [if_neg (by omega)]
  | succ d ih =>
    intro a b i h hl hd hi hab
    refine Ev.step (fun k => ?_) (ih a b (i + 1) h hl (by omega) (by omega) hab)
    subst hab
    simp only [inquestref15_Same.l0]
    rw [if_pos (by omega), if_pos (by omega), if_pos (by omega), w64 (by omega) (by omega)]; simp
theorem same15_t (a b : List S39) (hl : a.length ≤ 9223372036854775806) (h : a = b) : Ev (fun k => inquestref15_Same.f k a b) true := by
  refine Ev.congr (fun k => ?_) (same15_l0 a.length a b 0 (by rw [h]) hl (by omega) (by omega) h)
  unfold inquestref15_Same.f
  rw [if_pos (by rw [h])]; rfl
/-- So many instructions are read. -/
def decI : Nat → List Int → List S39 → List S39 × Int
  | 0, b, acc => if 0 < b.length then ([], 6) else if (thru acc).2.2 = 0 then (acc, 0) else ([], (thru acc).2.2)
  | _ + 1, [], _ => ([], 3)
  | n + 1, c :: r, acc => if takesZ c < 0 then ([], 15) else if saysZ c = true then (if (readR 0 r).2.2 = 0 then decI n (r.drop (readR 0 r).2.1.toNat) (acc ++ [⟨c, zagZ (readR 0 r).1⟩]) else ([], (readR 0 r).2.2)) else decI n r (acc ++ [⟨c, 0⟩])
def decA (b : List Int) : List S39 × Int :=
  if (readR 0 b).2.2 = 0 then (if 200 < (readR 0 b).1 then ([], 5) else decI (readR 0 b).1.toNat (b.drop (readR 0 b).2.1.toNat) []) else ([], (readR 0 b).2.2)
theorem code_Decode_l0 (d : Nat) : ∀ (b : List Int) (acc : List S39) (n i : Nat), (∀ c ∈ b, 0 ≤ c ∧ c < 256) → n - i = d → i ≤ n → n ≤ 200 → acc.length = i → b.length ≤ 140737488351232 →
    Ev (fun k => code_Decode.l0 k b acc n i) (decI d b acc) := by
  induction d with
  | zero =>
    intro b acc n i hb hd hi hn ha hl
    unfold decI
    by_cases c : 0 < b.length
    · rw [if_pos c]
      refine Ev.step (f := fun _ => some ([], 6)) (fun k => ?_) (Ev.now _)
      simp only [code_Decode.l0]; rw [if_neg (by omega), if_pos (by omega)]
    · rw [if_neg c]
      refine Ev.step (f := fun k => (code_Check.f k acc).bind fun bt236 => (if bt236.2 = 0 then (some (acc, 0)) else (some (([] : List S39), bt236.2)))) (fun k => ?_) ?_
      · simp only [code_Decode.l0]; rw [if_neg (by omega), if_neg (by omega)]
      · refine Ev.bind (code_Check_ev acc (by omega)) ?_
        by_cases e : (thru acc).2.2 = 0
        · rw [if_pos e, if_pos e]; exact Ev.now _
        · rw [if_neg e, if_neg e]; exact Ev.now _
  | succ d ih =>
    intro b acc n i hb hd hi hn ha hl
    cases b with
    | nil =>
      unfold decI
      refine Ev.step (f := fun _ => some ([], 3)) (fun k => ?_) (Ev.now _)
      simp only [code_Decode.l0]; rw [if_pos (by omega), if_pos (by simp)]
    | cons c r =>
      have hc := hb c (by simp)
      have hr : ∀ x ∈ r, 0 ≤ x ∧ x < 256 := fun x hx => hb x (by simp [hx])
      have rl : r.length ≤ 140737488351232 := by rw [List.length_cons] at hl; omega
      have r0 : rd (c :: r) 0 = c := rfl
      have tb := code_Takes_ev c
      have wi : IntKind.u64.wrap ((i : Int) + 1) = ((i + 1 : Nat) : Int) := by rw [wu64]; omega
      unfold decI
      have step : ∀ res, Ev (fun k => (code_Takes.f k c).bind fun t214 => (if t214 < 0 then (some (([] : List S39), 15)) else ((code_says.f c).bind fun t220 => (if t220 = true then ((word_ReadVar.f k r).bind fun bt221 => (if bt221.2.2 = 0 then ((word_Zag.f bt221.1).bind fun t224 => (if 0 ≤ bt221.2.1 then (if bt221.2.1 ≤ (r.length : Int) then (if acc.length < 8796093022208 then (code_Decode.l0 k (r.drop (bt221.2.1 : Int).toNat) (acc ++ [(⟨c, t224⟩ : S39)]) n (((i + 1 : Nat) : Int))) else (none)) else (none)) else (none))) else (some (([] : List S39), bt221.2.2)))) else (if acc.length < 8796093022208 then (code_Decode.l0 k r (acc ++ [(⟨c, 0⟩ : S39)]) n (((i + 1 : Nat) : Int))) else (none)))))) res → Ev (fun k => code_Decode.l0 k (c :: r) acc n i) res := by
        intro res h
        refine Ev.step (fun k => ?_) h
        simp only [code_Decode.l0]
        rw [if_pos (by omega), if_neg (by rw [List.length_cons]; omega), if_pos (by rw [List.length_cons]; omega), r0, w64 (i := c) (by omega) (by omega), if_pos (by rw [List.length_cons]; omega), wi]
        simp only [Option.bind_some, List.drop_succ_cons, List.drop_zero]
      refine step _ (Ev.bind tb ?_)
      by_cases c1 : takesZ c < 0
      · rw [if_pos c1]; exact Ev.congr (fun k => if_pos c1) (Ev.now _)
      · rw [if_neg c1]
        refine Ev.congr (fun k => if_neg c1) ?_
        simp only [says_is, Option.bind_some]
        by_cases c2 : saysZ c = true
        · rw [if_pos c2]
          refine Ev.congr (fun k => if_pos c2) ?_
          have q := readR_bd r 0 (by omega) hr
          refine Ev.bind (word_ReadVar_ev r hr rl) ?_
          by_cases c3 : (readR 0 r).2.2 = 0
          · rw [if_pos c3]
            refine Ev.congr (fun k => if_pos c3) ?_
            rw [word_Zag_is _ q.1 (by simpa using q.2.1)]
            simp only [Option.bind_some]
            refine Ev.congr (fun k => by rw [if_pos q.2.2.1, if_pos q.2.2.2.1, if_pos (by omega)]) ?_
            exact ih (r.drop (readR 0 r).2.1.toNat) (acc ++ [⟨c, zagZ (readR 0 r).1⟩]) n (i + 1) (fun x hx => hr x (List.mem_of_mem_drop hx)) (by omega) (by omega) hn (by simp [ha]) (by rw [List.length_drop]; omega)
          · rw [if_neg c3]; exact Ev.congr (fun k => if_neg c3) (Ev.now _)
        · rw [if_neg c2]
          refine Ev.congr (fun k => by rw [if_neg c2, if_pos (by omega)]) ?_
          exact ih r (acc ++ [⟨c, 0⟩]) n (i + 1) hr (by omega) (by omega) hn (by simp [ha]) rl
theorem code_Decode_ev (b : List Int) (hb : ∀ c ∈ b, 0 ≤ c ∧ c < 256) (hl : b.length ≤ 140737488351232) : Ev (fun k => code_Decode.f k b) (decA b) := by
  unfold decA
  have q := readR_bd b 0 (by omega) hb
  refine Ev.bind (word_ReadVar_ev b hb hl) ?_
  by_cases c : (readR 0 b).2.2 = 0
  · rw [if_pos c]
    refine Ev.congr (fun k => if_pos c) ?_
    by_cases c1 : 200 < (readR 0 b).1
    · rw [if_pos c1]; exact Ev.congr (fun k => if_pos c1) (Ev.now _)
    · rw [if_neg c1]
      refine Ev.congr (fun k => by rw [if_neg (by omega), if_pos q.2.2.1, if_pos q.2.2.2.1]) ?_
      obtain ⟨n, hn⟩ := Int.eq_ofNat_of_zero_le q.1
      rw [hn, Int.toNat_natCast]
      exact code_Decode_l0 n (b.drop (readR 0 b).2.1.toNat) [] n 0 (fun x hx => hb x (List.mem_of_mem_drop hx)) (by omega) (by omega) (by omega) rfl (by rw [List.length_drop]; omega)
  · rw [if_neg c]; exact Ev.congr (fun k => if_neg c) (Ev.now _)
/-- An instruction that can be says what its text says. -/
theorem can_says (n op N : Int) (h : canZ n op N = true) (hs : ¬ saysZ op = true) : N = 0 := by
  unfold saysZ at hs
  have hs' : ¬ (op = 0 ∨ op = 4 ∨ op = 5 ∨ op = 16 ∨ op = 17) := fun e => hs (decide_eq_true e)
  unfold canZ at h
  rw [if_neg (by omega), if_neg (by omega), if_neg (by omega)] at h
  exact (of_decide_eq_true h).2
theorem decI_text (n : Int) : ∀ (l acc : List S39), (∀ x ∈ l, canZ n x.f0 x.f1 = true) → (∀ x ∈ l, WfIns x) → (thru (acc ++ l)).2.2 = 0 → decI l.length (l.flatMap insT) acc = (acc ++ l, 0)
  | [], acc, _, _, ht => by
    rw [List.append_nil] at ht
    simp [decI, ht]
  | x :: l, acc, hc, hw, ht => by
    have cx := hc x (by simp)
    have wx := hw x (by simp)
    have ox := canZ_op n x.f0 x.f1 cx
    have tx := (putsZ_or x.f0 ox).2
    have ih := decI_text n l (acc ++ [x]) (fun y hy => hc y (by simp [hy])) (fun y hy => hw y (by simp [hy])) (by simpa using ht)
    rw [List.flatMap_cons, List.length_cons]
    have zb := zig_lo _ wx.2.1 wx.2.2
    by_cases s : saysZ x.f0 = true
    · have ie : insT x ++ l.flatMap insT = x.f0 :: (varL 9 (zigZ x.f1) ++ l.flatMap insT) := by
        unfold insT; rw [if_pos s, Int.emod_eq_of_lt (by omega) (by omega)]; rfl
      have rv := readR_varL 9 (zigZ x.f1) 0 (l.flatMap insT) (by omega) zb.1 (by simpa using zb.2) (by omega)
      rw [ie, decI, if_neg (by omega), if_pos s, rv]
      simp only [if_true]
      rw [Int.toNat_natCast, List.drop_left, zag_zig]
      rw [show acc ++ x :: l = acc ++ [x] ++ l from by simp]; exact ih
    · have ie : insT x ++ l.flatMap insT = x.f0 :: l.flatMap insT := by
        unfold insT; rw [if_neg s, Int.emod_eq_of_lt (by omega) (by omega)]; rfl
      have n0 := can_says n x.f0 x.f1 cx s
      rw [ie, decI, if_neg (by omega), if_neg s]
      rw [show acc ++ x :: l = acc ++ [x] ++ l from by simp, show (⟨x.f0, 0⟩ : S39) = x from by rw [← n0]]; exact ih
theorem decA_text (L : List S39) (h : (thru L).2.2 = 0) (hw : ∀ x ∈ L, WfIns x) : decA (textT L) = (L, 0) := by
  have g := thru_good L h
  have cans : ∀ x ∈ L, canZ L.length x.f0 x.f1 = true := by
    intro x hx
    obtain ⟨j, hj1, hj2⟩ := List.getElem_of_mem hx
    have := g.cans j hj1
    rwa [show rd_T39 L j = x from by simp [rd_T39, List.getElem?_eq_getElem hj1, hj2]] at this
  have hm := g.most
  unfold decA textT
  have rv := readR_varL 9 (L.length : Int) 0 (L.flatMap insT) (by omega) (by omega) (by simp; omega) (by omega)
  rw [rv]
  simp only [if_true]
  rw [if_neg (by omega), Int.toNat_natCast, Int.toNat_natCast, List.drop_left]
  exact decI_text L.length L [] cans hw (by simpa using h)
theorem decI_back (n : Nat) : ∀ (b : List Int) (acc : List S39), (∀ c ∈ b, 0 ≤ c ∧ c < 256) → (decI n b acc).2 = 0 →
    ∃ l : List S39, l.length = n ∧ (decI n b acc).1 = acc ++ l ∧ l.flatMap insT = b ∧ (thru (acc ++ l)).2.2 = 0 ∧ (∀ x ∈ l, WfIns x) := by
  induction n with
  | zero =>
    intro b acc hb h
    unfold decI at h ⊢
    by_cases c : 0 < b.length
    · rw [if_pos c] at h; simp at h
    · rw [if_neg c] at h ⊢
      by_cases e : (thru acc).2.2 = 0
      · rw [if_pos e]; exact ⟨[], rfl, by simp, by rw [List.eq_nil_of_length_eq_zero (show b.length = 0 by omega)]; rfl, by simpa using e, by simp⟩
      · rw [if_neg e] at h; exact absurd h e
  | succ n ih =>
    intro b acc hb h
    cases b with
    | nil => simp [decI] at h
    | cons c r =>
      have hc := hb c (by simp)
      have hr : ∀ x ∈ r, 0 ≤ x ∧ x < 256 := fun x hx => hb x (by simp [hx])
      unfold decI at h ⊢
      by_cases c1 : takesZ c < 0
      · rw [if_pos c1] at h; simp at h
      · rw [if_neg c1] at h ⊢
        by_cases c2 : saysZ c = true
        · rw [if_pos c2] at h ⊢
          by_cases c3 : (readR 0 r).2.2 = 0
          · rw [if_pos c3] at h ⊢
            have q := readR_bd r 0 (by omega) hr
            have v := varL_readR r 0 (by omega) hr c3
            obtain ⟨l, l1, l2, l3, l4, l5⟩ := ih _ _ (fun x hx => hr x (List.mem_of_mem_drop hx)) h
            have zb := zag_lo _ q.1 (by simpa using q.2.1)
            refine ⟨⟨c, zagZ (readR 0 r).1⟩ :: l, by simp [l1], by rw [l2]; simp, ?_, by simpa using l4, ?_⟩
            · rw [List.flatMap_cons, l3]
              unfold insT
              rw [if_pos c2, zig_zag _ q.1]
              simp only
              rw [Int.emod_eq_of_lt hc.1 hc.2, v, List.cons_append, List.take_append_drop]
            · intro x hx
              rcases List.mem_cons.mp hx with rfl | hx
              · exact ⟨⟨by simp only; omega, by simp only; omega⟩, zb.1, zb.2⟩
              · exact l5 x hx
          · rw [if_neg c3] at h; exact absurd h c3
        · rw [if_neg c2] at h ⊢
          obtain ⟨l, l1, l2, l3, l4, l5⟩ := ih _ _ hr h
          refine ⟨⟨c, 0⟩ :: l, by simp [l1], by rw [l2]; simp, ?_, by simpa using l4, ?_⟩
          · rw [List.flatMap_cons, l3]
            unfold insT
            rw [if_neg c2]
            simp only
            rw [Int.emod_eq_of_lt hc.1 hc.2]; rfl
          · intro x hx
            rcases List.mem_cons.mp hx with rfl | hx
            · exact ⟨⟨by simp only; omega, by simp only; omega⟩, by simp, by simp⟩
            · exact l5 x hx
theorem decA_back (b : List Int) (hb : ∀ c ∈ b, 0 ≤ c ∧ c < 256) (h : (decA b).2 = 0) : (thru (decA b).1).2.2 = 0 ∧ textT (decA b).1 = b ∧ (∀ x ∈ (decA b).1, WfIns x) := by
  unfold decA at h ⊢
  by_cases c : (readR 0 b).2.2 = 0
  · rw [if_pos c] at h ⊢
    by_cases c1 : 200 < (readR 0 b).1
    · rw [if_pos c1] at h; simp at h
    · rw [if_neg c1] at h ⊢
      obtain ⟨l, l1, l2, l3, l4, l5⟩ := decI_back _ _ _ (fun x hx => hb x (List.mem_of_mem_drop hx)) h
      have q := readR_bd b 0 (by omega) hb
      have v := varL_readR b 0 (by omega) hb c
      rw [List.nil_append] at l2 l4
      rw [l2]
      refine ⟨l4, ?_, l5⟩
      unfold textT
      rw [l3, l1, show (((readR 0 b).1.toNat : Nat) : Int) = (readR 0 b).1 from by have := q.1; omega, v, List.take_append_drop]
  · rw [if_neg c] at h; exact absurd h c
theorem decI_err (n : Nat) : ∀ (b : List Int) (acc : List S39), (decI n b acc).2 ≠ 0 → (decI n b acc).1 = [] := by
  induction n with
  | zero =>
    intro b acc h
    unfold decI at h ⊢
    split
    · rfl
    · rename_i c; rw [if_neg c] at h
      split
      · rename_i e; rw [if_pos e] at h; simp at h
      · rfl
  | succ n ih =>
    intro b acc h
    cases b with
    | nil => simp [decI]
    | cons c r =>
      unfold decI at h ⊢
      split
      · rfl
      · rename_i c1; rw [if_neg c1] at h
        split
        · rename_i c2; rw [if_pos c2] at h
          split
          · rename_i c3; rw [if_pos c3] at h; exact ih _ _ h
          · rfl
        · rename_i c2; rw [if_neg c2] at h; exact ih _ _ h
theorem decA_err (b : List Int) (h : (decA b).2 ≠ 0) : (decA b).1 = [] := by
  unfold decA at h ⊢
  split
  · rename_i c; rw [if_pos c] at h
    split
    · rfl
    · rename_i c1; rw [if_neg c1] at h; exact decI_err _ _ _ h
  · rfl
def numT : List Int := [1, 0, 0, 0, 2, 2, 0, 0, 0, 0, 0, 0, 0, 0, 0, 0, 3, 3, 0, 0]
def thenT : List Int := [0, 0, 0, 0, 0, 0, 0, 0, 0, 0, 0, 0, 0, 0, 0, 0, 1, 2, 3, 3]
theorem r15_table (a : Int) (h : 0 ≤ a ∧ a ≤ 19) : inquestref15_table.f a = some (rd numT a, takesZ a, putsZ a, rd thenT a) := by
  unfold takesZ putsZ
  rw [if_pos h, if_pos h]
  obtain ⟨n, rfl⟩ := Int.eq_ofNat_of_zero_le h.1
  have key : ∀ n : Nat, n < 20 → inquestref15_table.f (n : Int) = some (rd numT (n : Int), rd offT (n : Int), rd onT (n : Int), rd thenT (n : Int)) := by decide +kernel
  exact key n (by omega)
theorem r15_nums (a : Int) (h : 0 ≤ a ∧ a ≤ 19) : (rd numT a = if a = 0 then 1 else if a = 4 ∨ a = 5 then 2 else if a = 16 ∨ a = 17 then 3 else 0) ∧ (rd thenT a = if a = 16 then 1 else if a = 17 then 2 else if a = 18 ∨ a = 19 then 3 else 0) := by
  obtain ⟨n, rfl⟩ := Int.eq_ofNat_of_zero_le h.1
  have key : ∀ n : Nat, n < 20 → (rd numT (n : Int) = if (n : Int) = 0 then 1 else if (n : Int) = 4 ∨ (n : Int) = 5 then 2 else if (n : Int) = 16 ∨ (n : Int) = 17 then 3 else 0) ∧ (rd thenT (n : Int) = if (n : Int) = 16 then 1 else if (n : Int) = 17 then 2 else if (n : Int) = 18 ∨ (n : Int) = 19 then 3 else 0) := by decide +kernel
  exact key n (by omega)
theorem r15_then (a : Int) (h : 0 ≤ a ∧ a ≤ 19) : rd thenT a = 0 ∨ rd thenT a = 1 ∨ rd thenT a = 2 ∨ rd thenT a = 3 := by
  obtain ⟨n, rfl⟩ := Int.eq_ofNat_of_zero_le h.1
  have key : ∀ n : Nat, n < 20 → rd thenT (n : Int) = 0 ∨ rd thenT (n : Int) = 1 ∨ rd thenT (n : Int) = 2 ∨ rd thenT (n : Int) = 3 := by decide +kernel
  exact key n (by omega)
theorem r15_Is (a : Int) : inquestref15_Is.f a = some (decide (0 ≤ a ∧ a ≤ 19)) := by
  unfold inquestref15_Is.f
  by_cases h : a ≥ 0
  · rw [if_pos h]; congr 1; rw [decide_eq_decide]; exact ⟨fun h' => ⟨h, h'⟩, fun h' => h'.2⟩
  · rw [if_neg h, decide_eq_false (by omega)]
theorem r15_number (n a N : Int) (h : 0 ≤ a ∧ a ≤ 19) : inquestref15_number.f a N n = some (canZ n a N) := by
  unfold inquestref15_number.f
  rw [r15_table a h]
  simp only [Option.bind_some]
  rw [(r15_nums a h).1]
  have ht : 0 ≤ takesZ a := (putsZ_or a h).2
  unfold canZ
  by_cases c0 : a = 0
  · rw [if_pos c0, if_pos rfl, if_pos c0]
  · rw [if_neg c0, if_neg c0]
    by_cases c1 : a = 4 ∨ a = 5
    · rw [if_pos c1, if_neg (by decide), if_pos rfl, if_pos c1]
      by_cases h0 : N ≥ 0
      · rw [if_pos h0]; congr 1; rw [decide_eq_decide]; omega
      · rw [if_neg h0, decide_eq_false (by omega)]
    · rw [if_neg c1, if_neg c1]
      by_cases c2 : a = 16 ∨ a = 17
      · rw [if_pos c2, if_neg (by decide), if_neg (by decide), if_pos rfl, if_pos c2]
        by_cases h0 : N ≥ 0
        · rw [if_pos h0]; congr 1; rw [decide_eq_decide]; omega
        · rw [if_neg h0, decide_eq_false (by omega)]
      · rw [if_neg c2, if_neg (by decide), if_neg (by decide), if_neg (by decide), if_neg c2]
        congr 1
        rw [show (N == 0) = decide (N = 0) from rfl, decide_eq_decide]
        exact ⟨fun h => ⟨ht, h⟩, fun h => h.2⟩
theorem leadsR_z (n t d : Int) (l : List Int) (dep : List Int) (h0 : 0 ≤ t) (h1 : t ≤ n) (hd : 0 ≤ d) (hr : -1 ≤ rd dep t) :
    leadsZ n d (t :: l) dep = if (leadsR n t d dep).1 = 0 then leadsZ n d l (leadsR n t d dep).2 else leadsR n t d dep := by
  by_cases c : t = n
  · have e : leadsR n t d dep = (6, dep) := by unfold leadsR; rw [if_pos (by omega)]
    rw [leadsZ, if_pos c, e, if_neg (by simp)]
  · by_cases c1 : rd dep t < 0
    · have e : leadsR n t d dep = (0, dep.set t.toNat d) := by unfold leadsR; rw [if_neg (by omega), if_pos (by omega)]
      rw [leadsZ, if_neg c, if_pos c1, e, if_pos rfl]
    · by_cases c2 : rd dep t = d
      · have e : leadsR n t d dep = (0, dep) := by unfold leadsR; rw [if_neg (by omega), if_neg (by omega), if_pos c2]
        rw [leadsZ, if_neg c, if_neg c1, if_pos c2, e, if_pos rfl]
      · have e : leadsR n t d dep = (16, dep) := by unfold leadsR; rw [if_neg (by omega), if_neg (by omega), if_neg c2]
        rw [leadsZ, if_neg c, if_neg c1, if_neg c2, e, if_neg (by simp)]
theorem leadsR_len (n t d : Int) (dep : List Int) : (leadsR n t d dep).2.length = dep.length := by
  unfold leadsR
  split
  · rfl
  · split
    · simp
    · split <;> rfl
theorem leadsR_bd (n t d : Int) (dep : List Int) (h0 : 0 ≤ t) (hl : dep.length = n) (hd : 0 ≤ d) (hr : ∀ i : Nat, i < dep.length → -1 ≤ rd dep i) : ∀ i : Nat, i < dep.length → -1 ≤ rd (leadsR n t d dep).2 i := by
  intro i hi
  unfold leadsR
  obtain ⟨m, rfl⟩ := Int.eq_ofNat_of_zero_le h0
  split
  · exact hr i hi
  · split
    · rw [Int.toNat_natCast, rd_set _ _ _ _ (by omega)]
      split
      · omega
      · exact hr i hi
    · split
      · exact hr i hi
      · exact hr i hi
theorem goesR_z (L : List S39) (at_ : Nat) (dep : List Int) (ha : at_ < L.length) (hl : L.length ≤ 300) (hd : dep.length = L.length) (hr : ∀ i, i < L.length → -1 ≤ rd dep i ∧ rd dep i ≤ 8)
    (hc : canZ L.length (rd_T39 L at_).f0 (rd_T39 L at_).f1 = true) (h0 : 0 ≤ rd dep at_) :
    goesR L.length at_ (rd_T39 L at_).f1 (takesZ (rd_T39 L at_).f0) (putsZ (rd_T39 L at_).f0) (rd thenT (rd_T39 L at_).f0) dep = passZ L at_ dep := by
  have op := canZ_op _ _ _ hc
  have p := putsZ_bd (rd_T39 L at_).f0
  have p1 := takesZ_bd (rd_T39 L at_).f0
  have q := putsZ_or _ op
  have b := (hr at_ ha).2
  have bd := nextZ_bd _ _ at_ L.length hc (by omega) (by omega)
  unfold goesR passZ
  by_cases c : rd dep at_ < takesZ (rd_T39 L at_).f0
  · rw [if_pos c, if_pos (by omega)]
  · rw [if_neg c, if_neg (show ¬ rd dep at_ - takesZ (rd_T39 L at_).f0 < 0 from by omega)]
    have w1 : wrap64 (rd dep at_ - takesZ (rd_T39 L at_).f0) = rd dep at_ - takesZ (rd_T39 L at_).f0 := w64 (by omega) (by omega)
    have w2 : wrap64 (rd dep at_ - takesZ (rd_T39 L at_).f0 + putsZ (rd_T39 L at_).f0) = rd dep at_ - takesZ (rd_T39 L at_).f0 + putsZ (rd_T39 L at_).f0 := w64 (by omega) (by omega)
    have w3 : wrap64 ((at_ : Int) + 1) = (at_ : Int) + 1 := w64 (by omega) (by omega)
    rw [w1, w2, w3]
    by_cases c1 : rd dep at_ - takesZ (rd_T39 L at_).f0 + putsZ (rd_T39 L at_).f0 > 8
    · rw [if_pos c1, if_pos (show 8 < rd dep at_ - takesZ (rd_T39 L at_).f0 + putsZ (rd_T39 L at_).f0 from by omega)]
    · rw [if_neg c1, if_neg (show ¬ 8 < rd dep at_ - takesZ (rd_T39 L at_).f0 + putsZ (rd_T39 L at_).f0 from by omega)]
      have hd0 : 0 ≤ rd dep at_ - takesZ (rd_T39 L at_).f0 + putsZ (rd_T39 L at_).f0 := by omega
      generalize rd dep at_ - takesZ (rd_T39 L at_).f0 + putsZ (rd_T39 L at_).f0 = d at hd0 c1
      rw [(r15_nums _ op).2]
      have e1 : -1 ≤ rd dep ((at_ : Int) + 1) := by
        by_cases e : at_ + 1 < L.length
        · exact (hr (at_ + 1) e).1
        · have : rd dep ((at_ : Int) + 1) = 0 := by
            unfold rd; rw [List.getD_eq_getElem?_getD, List.getElem?_eq_none (by omega)]; rfl
          omega
      by_cases c16 : (rd_T39 L at_).f0 = 16
      · have nz : nextZ (rd_T39 L at_).f0 (rd_T39 L at_).f1 at_ = [(rd_T39 L at_).f1] := by unfold nextZ; rw [if_neg (by omega), if_pos c16]
        rw [nz] at bd ⊢
        rw [if_pos c16, if_neg (by decide), if_pos (by decide)]
        have bn := bd _ (List.mem_singleton.2 rfl)
        have e2 : -1 ≤ rd dep (rd_T39 L at_).f1 := by
          obtain ⟨m, hm⟩ := Int.eq_ofNat_of_zero_le bn.1
          rw [hm] at bn ⊢
          by_cases e : m < L.length
          · exact (hr m e).1
          · have : rd dep (m : Int) = 0 := by unfold rd; rw [List.getD_eq_getElem?_getD, List.getElem?_eq_none (by omega)]; rfl
            omega
        rw [leadsR_z _ _ _ [] dep bn.1 bn.2 hd0 e2, leadsZ]
        split
        · rename_i hz; rw [← hz]
        · rfl
      · rw [if_neg c16]
        by_cases c17 : (rd_T39 L at_).f0 = 17
        · have nz : nextZ (rd_T39 L at_).f0 (rd_T39 L at_).f1 at_ = [(at_ : Int) + 1, (rd_T39 L at_).f1] := by unfold nextZ; rw [if_neg (by omega), if_neg c16, if_pos c17]
          rw [nz] at bd ⊢
          rw [if_pos c17, if_pos (by decide)]
          have bn := bd (rd_T39 L at_).f1 (by simp)
          rw [leadsR_z _ _ _ [_] dep (by omega) (by omega) hd0 e1]
          by_cases z : (leadsR L.length (at_ + 1) d dep).1 = 0
          · rw [if_neg (by simp [z]), if_pos (by decide), if_pos z]
            have e2 : -1 ≤ rd (leadsR L.length (at_ + 1) d dep).2 (rd_T39 L at_).f1 := by
              obtain ⟨m, hm⟩ := Int.eq_ofNat_of_zero_le bn.1
              rw [hm] at bn ⊢
              by_cases e : m < L.length
              · exact leadsR_bd _ _ d dep (by omega) (by omega) hd0 (fun i hi => (hr i (by omega)).1) m (by omega)
              · have : rd (leadsR L.length (at_ + 1) d dep).2 (m : Int) = 0 := by
                  have hl2 : (leadsR L.length (at_ + 1) d dep).2.length = L.length := by rw [leadsR_len, hd]
                  unfold rd; rw [List.getD_eq_getElem?_getD, List.getElem?_eq_none (by omega)]; rfl
                omega
            rw [leadsR_z _ _ _ [] _ bn.1 bn.2 hd0 e2, leadsZ]
            split
            · rename_i hz; rw [← hz]
            · rfl
          · rw [if_pos (by simpa using z), if_neg z]
        · rw [if_neg c17]
          by_cases c18 : (rd_T39 L at_).f0 = 18 ∨ (rd_T39 L at_).f0 = 19
          · have nz : nextZ (rd_T39 L at_).f0 (rd_T39 L at_).f1 at_ = [] := by unfold nextZ; rw [if_pos c18]
            rw [nz, if_pos c18, if_neg (by decide), if_neg (by decide)]; rfl
          · have nz : nextZ (rd_T39 L at_).f0 (rd_T39 L at_).f1 at_ = [(at_ : Int) + 1] := by unfold nextZ; rw [if_neg c18, if_neg c16, if_neg c17]
            rw [nz, if_neg c18, if_pos (by decide)]
            rw [leadsR_z _ _ _ [] dep (by omega) (by omega) hd0 e1, leadsZ]
            by_cases z : (leadsR L.length (at_ + 1) d dep).1 = 0
            · rw [if_neg (by simp [z]), if_neg (by decide), if_pos z]; exact Prod.ext z rfl
            · rw [if_pos (by simpa using z), if_neg z]
theorem r15_l1 (L : List S39) (hl : L.length ≤ 300) (hc : Cans L) (f : Nat) : ∀ (dep : List Int) (done : List Bool) (at_ : Nat), Small L dep done → at_ ≤ L.length →
    (undone done) * (L.length + 1) + (L.length - at_) < f → inquestref15_Through.l1 f L dep done at_ = some (thruZ L f dep done at_) := by
  induction f with
  | zero => intro dep done at_ _ _ h; omega
  | succ f ih =>
    intro dep done at_ sm ha hf
    obtain ⟨dl, el, lo⟩ := sm
    unfold thruZ inquestref15_Through.l1
    by_cases c : at_ < L.length
    · rw [if_pos c, if_pos (by omega), rdOf_getD]
      by_cases c0 : done.getD at_ false = true
      · rw [if_pos c0, if_pos (.inl c0)]
        exact ih dep done (at_ + 1) ⟨dl, el, lo⟩ (by omega) (by omega)
      · rw [if_neg c0]
        by_cases c1 : rd dep at_ = -1
        · rw [if_pos c1, if_pos (.inr (by omega))]
          exact ih dep done (at_ + 1) ⟨dl, el, lo⟩ (by omega) (by omega)
        · have hd0 : done.getD at_ false = false := by
            cases h : done.getD at_ false
            · rfl
            · exact absurd h c0
          have h0 : 0 ≤ rd dep at_ := by have := (lo at_ c).1; omega
          have op := canZ_op _ _ _ (hc at_ c)
          have tn := (r15_nums _ op).2
          have cn := hc at_ c
          obtain ⟨k1, k2, k3, k4⟩ := passZ_keeps L at_ dep c dl lo (hc at_ c) h0
          rw [if_neg c1, if_neg (fun h => h.elim c0 (fun h => by omega)), r15_table _ op]
          simp only [Option.bind_some]
          rw [if_pos (r15_then _ op), if_pos (by
            intro h
            rw [tn] at h
            unfold canZ at cn
            by_cases e16 : (rd_T39 L at_).f0 = 16
            · rw [e16] at cn; simp at cn; omega
            · by_cases e17 : (rd_T39 L at_).f0 = 17
              · rw [e17] at cn; simp at cn; omega
              · rw [if_neg e16, if_neg e17] at h
                split at h
                · omega
                · omega), goesR_z L at_ dep c hl dl lo (hc at_ c) h0]
          by_cases c2 : (passZ L at_ dep).1 = 0
          · rw [if_pos c2, if_pos c2, Int.toNat_natCast]
            have us := undone_set done at_ (by omega) hd0
            exact ih (passZ L at_ dep).2 (done.set at_ true) 0 ⟨k1, by simpa using el, k2⟩ (by omega) (by
              have : undone done * (L.length + 1) = undone (done.set at_ true) * (L.length + 1) + (L.length + 1) := by rw [← us, Nat.add_mul, Nat.one_mul]
              omega)
          · rw [if_neg c2, if_neg c2]
    · rw [if_neg c, if_neg (by omega)]
theorem r15_l0 (d K : Nat) : ∀ (L : List S39) (i : Nat), L.length - i = d → i ≤ L.length →
    inquestref15_Through.l0 K (d + 1) L i = match firstBad L.length (L.drop i) i with
      | some j => some ([], (j : Int), 15)
      | none => inquestref15_Through.l1 K L ((List.replicate L.length (-1)).set 0 0) (List.replicate L.length false) 0 := by
  induction d with
  | zero =>
    intro L i hd hi
    rw [List.drop_of_length_le (by omega)]
    simp only [firstBad]
    unfold inquestref15_Through.l0
    rw [if_neg (by omega)]
  | succ d ih =>
    intro L i hd hi
    have e : L.drop i = rd_T39 L i :: L.drop (i + 1) := by
      rw [List.drop_eq_getElem_cons (by omega)]; congr 1; simp [rd_T39, List.getElem?_eq_getElem (show i < L.length by omega)]
    rw [e, firstBad]
    unfold inquestref15_Through.l0
    rw [if_pos (by omega), r15_Is]
    simp only [Option.bind_some]
    by_cases op : 0 ≤ (rd_T39 L i).f0 ∧ (rd_T39 L i).f0 ≤ 19
    · rw [decide_eq_true op, if_pos rfl, r15_number _ _ _ op]
      simp only [Option.bind_some]
      by_cases c : canZ L.length (rd_T39 L i).f0 (rd_T39 L i).f1 = true
      · rw [if_pos c, if_pos c]
        exact ih L (i + 1) (by omega) (by omega)
      · rw [if_neg c, if_neg c]
    · rw [decide_eq_false op, if_neg (by decide), if_neg (fun h => op (canZ_op _ _ _ h))]
theorem r15_Through (L : List S39) (hl : L.length ≤ 300) : inquestref15_Through.f L = some (thru L) := by
  unfold inquestref15_Through.f thru
  by_cases c : L.length < 1 ∨ 200 < L.length
  · rw [if_pos (by omega), if_pos c]
  · rw [if_neg (by omega), if_neg c, r15_l0 L.length _ L 0 (by omega) (by omega), List.drop_zero]
    cases h1 : firstBad L.length L 0 with
    | some j => rfl
    | none =>
      refine r15_l1 L hl (Cans_of L h1) _ _ _ 0 (start_small L (by omega)) (by omega) ?_
      have := undone_le (List.replicate L.length false)
      rw [List.length_replicate] at this
      have h3 : undone (List.replicate L.length false) * (L.length + 1) ≤ L.length * (L.length + 1) := Nat.mul_le_mul_right _ this
      have h4 : (L.length + 1) * (L.length + 2) = L.length * (L.length + 1) + 2 * (L.length + 1) := by rw [Nat.mul_comm, Nat.add_mul]
      omega
theorem r15_Check (L : List S39) (hl : L.length ≤ 300) : inquestref15_Check.f L = some ((thru L).2.1, (thru L).2.2) := by
  unfold inquestref15_Check.f; rw [r15_Through L hl]; rfl
theorem r15_num_says (op : Int) (h : 0 ≤ op ∧ op ≤ 19) : decide (rd numT op > 0) = saysZ op := by
  obtain ⟨n, rfl⟩ := Int.eq_ofNat_of_zero_le h.1
  have key : ∀ n : Nat, n < 20 → decide (rd numT (n : Int) > 0) = saysZ (n : Int) := by decide +kernel
  exact key n (by omega)
theorem saysZ_range (op : Int) (h : ¬ (0 ≤ op ∧ op ≤ 19)) : saysZ op = false := by unfold saysZ; rw [decide_eq_false (by omega)]
theorem r15_says {α : Type} (op : Int) (F : Bool → Option α) :
    ((inquestref15_Is.f op).bind fun t => (if t = true then ((inquestref15_table.f op).bind fun bt => F (decide (bt.1 > 0))) else F false)) = F (saysZ op) := by
  rw [r15_Is]
  simp only [Option.bind_some]
  by_cases h : 0 ≤ op ∧ op ≤ 19
  · rw [decide_eq_true h, if_pos rfl, r15_table op h]
    simp only [Option.bind_some]
    rw [r15_num_says op h]
  · rw [decide_eq_false h, if_neg (by decide), saysZ_range op h]
theorem r15_Text_l0 (d : Nat) : ∀ (L : List S39) (acc : List Int) (i : Nat), (∀ x ∈ L, WfIns x) → L.length - i = d → i ≤ L.length → L.length ≤ 300 → acc.length ≤ 10 + 11 * i →
    Ev (fun k => inquestref15_Text.l0 k L acc i) (acc ++ (L.drop i).flatMap insT) := by
  induction d with
  | zero =>
    intro L acc i hw hd hi hl ha
    refine Ev.step (f := fun _ => some acc) (fun k => ?_) (by rw [List.drop_of_length_le (by omega)]; simpa using Ev.now _)
    simp only [inquestref15_Text.l0]; rw [if_neg (by omega)]
  | succ d ih =>
    intro L acc i hw hd hi hl ha
    have e : L.drop i = rd_T39 L i :: L.drop (i + 1) := by
      rw [List.drop_eq_getElem_cons (by omega)]; congr 1; simp [rd_T39, List.getElem?_eq_getElem (show i < L.length by omega)]
    have wf := hw _ (rdT_mem L i (by omega))
    have il := insT_len (rd_T39 L i)
    have g := ih L (acc ++ insT (rd_T39 L i)) (i + 1) hw (by omega) (by omega) hl (by rw [List.length_append]; omega)
    rw [e, List.flatMap_cons, ← List.append_assoc]
    have w := w64 (i := (i : Int) + 1) (by omega) (by omega)
    refine Ev.step (f := fun k => inquestref15_Text.j1 k L (acc ++ [(rd_T39 L i).f0 % 256]) i (saysZ (rd_T39 L i).f0)) (fun k => ?_) ?_
    · simp only [inquestref15_Text.l0]
      rw [if_pos (by omega), if_pos (by omega), if_pos (by omega)]
      simp only [Option.bind_some]
      exact r15_says (rd_T39 L i).f0 (fun b => inquestref15_Text.j1 k L (acc ++ [(rd_T39 L i).f0 % 256]) i b)
    · by_cases c : saysZ (rd_T39 L i).f0 = true
      · have ie : insT (rd_T39 L i) = [(rd_T39 L i).f0 % 256] ++ varL 9 (zigZ (rd_T39 L i).f1) := by unfold insT; rw [if_pos c]; rfl
        have zb := zig_lo _ wf.2.1 wf.2.2
        refine Ev.step (f := fun k => (inquestref01_Var.f k (zigZ (rd_T39 L i).f1)).bind fun t => if (acc ++ [(rd_T39 L i).f0 % 256]).length + t.length < 140737488355328 then inquestref15_Text.l0 k L ((acc ++ [(rd_T39 L i).f0 % 256]) ++ t) (wrap64 ((i : Int) + 1)) else none) (fun k => ?_) ?_
        · simp only [inquestref15_Text.j1]
          rw [if_pos c, if_pos (by omega), if_pos (by omega), r01_Zig_is _ wf.2.1 wf.2.2]
          rfl
        · refine Ev.bind (r01_Var_ev _ zb.1 zb.2) ?_
          have vl := varL_len 9 (zigZ (rd_T39 L i).f1)
          refine Ev.congr (fun k => ?_) g
          rw [if_pos (by rw [List.length_append, List.length_singleton]; omega), w, ie, List.append_assoc]; rfl
      · have ie : insT (rd_T39 L i) = [(rd_T39 L i).f0 % 256] := by unfold insT; rw [if_neg c]
        refine Ev.step (fun k => ?_) g
        simp only [inquestref15_Text.j1]
        rw [if_neg c, w, ie]; rfl
theorem r15_Encode_ev (L : List S39) (hl : L.length ≤ 300) (hw : ∀ x ∈ L, WfIns x) : Ev (fun k => inquestref15_Encode.f k L) (encA L) := by
  unfold encA inquestref15_Encode.f
  rw [r15_Check L hl]
  simp only [Option.bind_some]
  by_cases c : (thru L).2.2 = 0
  · rw [if_pos c]
    refine Ev.congr (fun k => if_pos c) ?_
    have vl := varL_len 9 (L.length : Int)
    have g := r15_Text_l0 L.length L (varL 9 (L.length : Int)) 0 hw rfl (by omega) hl (by omega)
    rw [List.drop_zero] at g
    have t : Ev (fun k => inquestref15_Text.f k L) (textT L) := by
      unfold inquestref15_Text.f
      rw [wu64, Int.emod_eq_of_lt (by omega) (by omega)]
      exact Ev.bind (r01_Var_ev _ (by omega) (by omega)) g
    exact Ev.bind t (Ev.now _)
  · rw [if_neg c]
    exact Ev.congr (fun k => if_neg c) (Ev.now _)
theorem r15_unfold (u : Int) (h0 : 0 ≤ u) (h1 : u < 18446744073709551616) : inquestref15_unfold.f u = some (zagZ u) := by
  unfold inquestref15_unfold.f zagZ
  rw [Int.tmod_eq_emod_of_nonneg h0, Int.tdiv_eq_ediv_of_nonneg h0, wu64, Int.emod_eq_of_lt (a := u / 2) (by omega) (by omega), w64 (i := u / 2) (by omega) (by omega), w64 (i := -(u / 2)) (by omega) (by omega), w64 (i := -(u / 2) - 1) (by omega) (by omega)]
  split <;> rfl
theorem takesZ_range (c : Int) : takesZ c < 0 ↔ ¬ (0 ≤ c ∧ c ≤ 19) := by
  unfold takesZ
  by_cases h : 0 ≤ c ∧ c ≤ 19
  · rw [if_pos h]
    have := (putsZ_or c h).2
    unfold takesZ at this
    rw [if_pos h] at this
    exact ⟨fun h1 => by omega, fun h1 => absurd h h1⟩
  · rw [if_neg h]; exact ⟨fun _ => h, fun _ => by omega⟩
theorem r15_Decode_l0 (d : Nat) : ∀ (b : List Int) (at_ : Nat) (acc : List S39) (n : Nat), (∀ c ∈ b, 0 ≤ c ∧ c < 256) → n - acc.length = d → acc.length ≤ n → n ≤ 200 → at_ ≤ b.length → b.length ≤ 140737488351232 →
    Ev (fun k => inquestref15_Decode.l0 k b n at_ acc) (decI d (b.drop at_) acc) := by
  induction d with
  | zero =>
    intro b at_ acc n hb hd hi hn ha hl
    have wa : IntKind.u64.wrap (acc.length : Int) = acc.length := by rw [wu64]; omega
    unfold decI
    rw [List.length_drop]
    by_cases c : at_ < b.length
    · rw [if_pos (by omega)]
      refine Ev.step (f := fun _ => some ([], 6)) (fun k => ?_) (Ev.now _)
      simp only [inquestref15_Decode.l0]; rw [wa, if_neg (by omega), if_pos (by omega)]
    · rw [if_neg (by omega)]
      refine Ev.step (f := fun _ => if (thru acc).2.2 = 0 then some (acc, 0) else some (([] : List S39), (thru acc).2.2)) (fun k => ?_) ?_
      · simp only [inquestref15_Decode.l0]; rw [wa, if_neg (by omega), if_neg (by omega), r15_Check acc (by omega)]; simp only [Option.bind_some]
      · by_cases e : (thru acc).2.2 = 0
        · rw [if_pos e, if_pos e]; exact Ev.now _
        · rw [if_neg e, if_neg e]; exact Ev.now _
  | succ d ih =>
    intro b at_ acc n hb hd hi hn ha hl
    have wa : IntKind.u64.wrap (acc.length : Int) = acc.length := by rw [wu64]; omega
    by_cases he : at_ = b.length
    · rw [List.drop_of_length_le (by omega)]
      unfold decI
      refine Ev.step (f := fun _ => some ([], 3)) (fun k => ?_) (Ev.now _)
      simp only [inquestref15_Decode.l0]; rw [wa, if_pos (by omega), if_pos (by omega)]
    · have hlt : at_ < b.length := by omega
      have e : b.drop at_ = rd b at_ :: b.drop (at_ + 1) := by
        rw [List.drop_eq_getElem_cons hlt]; congr 1; simp [rd, List.getElem?_eq_getElem hlt]
      have hc : 0 ≤ rd b at_ ∧ rd b at_ < 256 := by
        have : rd b at_ = b[at_] := by simp [rd, List.getElem?_eq_getElem hlt]
        rw [this]; exact hb _ (List.getElem_mem hlt)
      have hr : ∀ x ∈ b.drop (at_ + 1), 0 ≤ x ∧ x < 256 := fun x hx => hb x (List.mem_of_mem_drop hx)
      have rl : (b.drop (at_ + 1)).length ≤ 140737488351232 := by rw [List.length_drop]; omega
      have hA : 0 ≤ ((at_ + 1 : Nat) : Int) := by omega
      have hB : ((at_ + 1 : Nat) : Int) ≤ (b.length : Int) := by omega
      have hC : acc.length < 8796093022208 := by omega
      have hX : (acc.length : Int) < n := by omega
      have hY : ¬ (at_ : Int) = b.length := by omega
      have hZ : (0 : Int) ≤ at_ := by omega
      have hW : (at_ : Int) < b.length := by omega
      have wc : wrap64 (rd b at_) = rd b at_ := w64 (by omega) (by omega)
      have w1 : wrap64 ((at_ : Int) + 1) = ((at_ + 1 : Nat) : Int) := by rw [w64 (by omega) (by omega)]; rfl
      have step : ∀ res, Ev (fun k => (inquestref15_Is.f (rd b at_)).bind fun t303 => (if t303 = true then ((inquestref15_table.f (rd b at_)).bind fun bt304 => (if bt304.1 > 0 then ((inquestref01_ReadVar.f k (b.drop (at_ + 1))).bind fun bt309 => (if bt309.2.2 = 0 then ((inquestref15_unfold.f bt309.1).bind fun t312 => (inquestref15_Decode.l0 k b n (wrap64 (((at_ + 1 : Nat) : Int) + bt309.2.1)) (acc ++ [(⟨rd b at_, t312⟩ : S39)]))) else (some (([] : List S39), bt309.2.2)))) else (inquestref15_Decode.l0 k b n ((at_ + 1 : Nat) : Int) (acc ++ [(⟨rd b at_, 0⟩ : S39)])))) else (some (([] : List S39), 15)))) res → Ev (fun k => inquestref15_Decode.l0 k b n at_ acc) res := by
        intro res h
        refine Ev.step (fun k => ?_) h
        simp only [inquestref15_Decode.l0]
        rw [wa, if_pos hX, if_neg hY, if_pos hZ, if_pos hW]
        simp only [wc, w1, hA, hB, hC, if_true, Int.toNat_natCast]
      rw [e]
      unfold decI
      refine step _ ?_
      clear step wc w1
      by_cases c1 : 0 ≤ rd b at_ ∧ rd b at_ ≤ 19
      · rw [if_neg (fun h => (takesZ_range _).1 h c1)]
        have ns := r15_num_says _ c1
        rw [r15_Is, decide_eq_true c1, r15_table _ c1]
        simp only [Option.bind_some, if_true]
        by_cases c2 : saysZ (rd b at_) = true
        · rw [if_pos c2]
          rw [c2] at ns
          refine Ev.congr (fun k => if_pos (of_decide_eq_true ns)) ?_
          have q := readR_bd (b.drop (at_ + 1)) 0 (by omega) hr
          refine Ev.bind (r01_ReadVar_ev (b.drop (at_ + 1)) hr rl) ?_
          by_cases c3 : (readR 0 (b.drop (at_ + 1))).2.2 = 0
          · rw [if_pos c3]
            refine Ev.congr (fun k => if_pos c3) ?_
            rw [r15_unfold _ q.1 (by simpa using q.2.1)]
            simp only [Option.bind_some]
            have g := ih b (at_ + 1 + (readR 0 (b.drop (at_ + 1))).2.1.toNat) (acc ++ [⟨rd b at_, zagZ (readR 0 (b.drop (at_ + 1))).1⟩]) n hb (by simp; omega) (by simp; omega) hn (by have := q.2.2.2.1; rw [List.length_drop] at this; omega) hl
            rw [List.drop_drop]
            have q3 := q.2.2.1
            have q4 := q.2.2.2.1
            rw [List.length_drop] at q4
            refine Ev.congr (fun k => ?_) g
            rw [w64 (by omega) (by omega)]
            congr 1
            omega
          · rw [if_neg c3]; exact Ev.congr (fun k => if_neg c3) (Ev.now _)
        · rw [if_neg c2]
          have c2' : saysZ (rd b at_) = false := by simpa using c2
          rw [c2'] at ns
          refine Ev.congr (fun k => if_neg (of_decide_eq_false ns)) ?_
          exact ih b (at_ + 1) (acc ++ [⟨rd b at_, 0⟩]) n hb (by simp; omega) (by simp; omega) hn (by omega) hl
      · rw [if_pos ((takesZ_range _).2 c1), r15_Is, decide_eq_false c1]
        simp only [Option.bind_some]
        exact Ev.congr (fun k => if_neg (by decide)) (Ev.now _)
theorem r15_Decode_ev (b : List Int) (hb : ∀ c ∈ b, 0 ≤ c ∧ c < 256) (hl : b.length ≤ 140737488351232) : Ev (fun k => inquestref15_Decode.f k b) (decA b) := by
  unfold decA
  have q := readR_bd b 0 (by omega) hb
  refine Ev.bind (r01_ReadVar_ev b hb hl) ?_
  by_cases c : (readR 0 b).2.2 = 0
  · rw [if_pos c]
    refine Ev.congr (fun k => if_pos c) ?_
    by_cases c1 : 200 < (readR 0 b).1
    · rw [if_pos c1]; exact Ev.congr (fun k => if_pos c1) (Ev.now _)
    · rw [if_neg c1]
      refine Ev.congr (fun k => if_neg (by omega)) ?_
      obtain ⟨n, hn⟩ := Int.eq_ofNat_of_zero_le q.1
      obtain ⟨m, hm⟩ := Int.eq_ofNat_of_zero_le q.2.2.1
      have q4 := q.2.2.2.1
      rw [hn, hm, Int.toNat_natCast, Int.toNat_natCast]
      exact r15_Decode_l0 n b m [] n hb (by simp) (by simp) (by omega) (by omega) hl
  · rw [if_neg c]; exact Ev.congr (fun k => if_neg c) (Ev.now _)
theorem enc_short (L : List S39) (hl : L.length ≤ 300) : (encA L).1.length ≤ 100000 := by
  unfold encA
  split
  · show (textT L).length ≤ 100000
    unfold textT
    have := flat_len L
    have := (varL_len 9 (L.length : Int)).2
    rw [List.length_append]; omega
  · simp
theorem decI_short (n : Nat) : ∀ (b : List Int) (acc : List S39), (decI n b acc).1.length ≤ acc.length + n := by
  induction n with
  | zero =>
    intro b acc
    unfold decI
    split
    · simp
    · split
      · simp
      · simp
  | succ n ih =>
    intro b acc
    cases b with
    | nil => unfold decI; simp
    | cons c r =>
      unfold decI
      split
      · simp
      · split
        · split
          · have := ih (r.drop (readR 0 r).2.1.toNat) (acc ++ [⟨c, zagZ (readR 0 r).1⟩]); rw [List.length_append, List.length_singleton] at this; omega
          · simp
        · have := ih r (acc ++ [⟨c, 0⟩]); rw [List.length_append, List.length_singleton] at this; omega
theorem dec_short (b : List Int) (hb : ∀ c ∈ b, 0 ≤ c ∧ c < 256) : (decA b).1.length ≤ 100000 := by
  unfold decA
  split
  · split
    · simp
    · have := decI_short (readR 0 b).1.toNat (b.drop (readR 0 b).2.1.toNat) []
      rw [List.length_nil] at this; omega
  · simp
theorem CodeTexts : inquestlaw15_CodeTexts.Pure := by
  intro l b hl hw hb _ hwb
  refine Ev.rounds ?_
  unfold inquestlaw15_CodeTexts.f
  rw [few15 l hl, show inquestref01_Cut.f b 2500 = some (b.take 2500) from cut01 b 2500]
  simp only [Option.bind_some]
  have l210 : (l.take 210).length ≤ 210 := by rw [List.length_take]; omega
  have wL : ∀ x ∈ l.take 210, WfIns x := fun x hx => wf_ins hw x (List.mem_of_mem_take hx)
  have b25 : (b.take 2500).length ≤ 2500 := by rw [List.length_take]; omega
  have wB : ∀ c ∈ b.take 2500, 0 ≤ c ∧ c < 256 := fun x hx => wf_u8 (hwb x (List.mem_of_mem_take hx))
  generalize l.take 210 = L at l210 wL
  generalize b.take 2500 = B at b25 wB
  have cp : inquestref01_Copy.f B = some B := by unfold inquestref01_Copy.f; rw [if_pos (by simp; omega)]; rfl
  rw [cp]
  simp only [Option.bind_some]
  refine Ev.bind (code_Encode_ev L (by omega) wL) ?_
  refine Ev.bind (r15_Encode_ev L (by omega) wL) ?_
  refine Ev.bind (code_Decode_ev B wB (by omega)) ?_
  refine Ev.bind (r15_Decode_ev B wB (by omega)) ?_
  have e1 := enc_short L (by omega)
  have e2 := dec_short B wB
  refine Ev.bind (same01_t _ _ (by omega) rfl) ?_
  simp only [if_true]
  refine Ev.bind (same15_t _ _ (by omega) rfl) ?_
  simp only [if_true]
  refine Ev.bind (same01_t _ _ (by omega) rfl) ?_
  simp only [if_true]
  exact Ev.bind lives15 (Ev.now _)

end Go.Proofs.Ytifmajpcjgolgaa.Pure
