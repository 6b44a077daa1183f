/- The law HistTexts answers true at every input: which text any events have, and which events any bytes say, or why none. No condition. The printed texts and the row beside it were written by wip/bin/pp.sh of this session. -/
import Derived.Test.YtofhghpahmeolaaPHistTextsx6
namespace Go.Proofs.Ytofhghpahmeolaa.Pure
open Go.RowKit Go.Proofs.Ytofhghpahmeolaa.PHistTexts Go.Proofs.YtofhghpahmeolaaW.PrintWords Go.Proofs.YtofhghpahmeolaaW.PrintLast Go.Proofs.YtofhghpahmeolaaW.PrintMore
set_option linter.unusedVariables false
set_option linter.unusedSimpArgs false
theorem w64 {i : Int} (h : -9223372036854775808 ≤ i) (h' : i ≤ 9223372036854775807) : wrap64 i = i := by unfold wrap64; omega
theorem wf_u64 {a : Int} (h : (Lit.int .u64 a).wf = true) : 0 ≤ a ∧ a < 18446744073709551616 := by
  simp [Lit.wf, IntKind.min, IntKind.max, IntKind.signed, IntKind.bits] at h; omega
theorem wf_i64 {a : Int} (h : (Lit.int .i64 a).wf = true) : -9223372036854775808 ≤ a ∧ a ≤ 9223372036854775807 := by
  simp [Lit.wf, IntKind.min, IntKind.max, IntKind.signed, IntKind.bits] at h; omega
theorem wf_u32 {a : Int} (h : (Lit.int .u32 a).wf = true) : 0 ≤ a ∧ a < 4294967296 := by
  simp [Lit.wf, IntKind.min, IntKind.max, IntKind.signed, IntKind.bits] at h; omega
theorem wu64 (n : Int) : IntKind.u64.wrap n = n % 18446744073709551616 := by simp [IntKind.wrap, IntKind.bits, IntKind.signed]
theorem wu32 (n : Int) : IntKind.u32.wrap n = n % 4294967296 := by simp [IntKind.wrap, IntKind.bits, IntKind.signed]
theorem wi64 (n : Int) : IntKind.i64.wrap n = wrap64 n := by
  simp [IntKind.wrap, IntKind.bits, IntKind.signed, wrap64]; split <;> omega
theorem bx_u64 (x y : Int) : Go.bits .xor .u64 x y = IntKind.u64.wrap ((BitVec.ofInt 64 x ^^^ BitVec.ofInt 64 y).toNat : Int) := rfl
theorem bx_i64 (x y : Int) : Go.bits .xor .i64 x y = IntKind.i64.wrap ((BitVec.ofInt 64 x ^^^ BitVec.ofInt 64 y).toNat : Int) := rfl
theorem ba_u64 (x y : Int) : Go.bits .and .u64 x y = IntKind.u64.wrap ((BitVec.ofInt 64 x &&& BitVec.ofInt 64 y).toNat : Int) := rfl
theorem bo_u64 (x y : Int) : Go.bits .or .u64 x y = IntKind.u64.wrap ((BitVec.ofInt 64 x ||| BitVec.ofInt 64 y).toNat : Int) := rfl
theorem bx_u32 (x y : Int) : Go.bits .xor .u32 x y = IntKind.u32.wrap ((BitVec.ofInt 32 x ^^^ BitVec.ofInt 32 y).toNat : Int) := rfl
theorem ba_u32 (x y : Int) : Go.bits .and .u32 x y = IntKind.u32.wrap ((BitVec.ofInt 32 x &&& BitVec.ofInt 32 y).toNat : Int) := rfl
theorem bo_u32 (x y : Int) : Go.bits .or .u32 x y = IntKind.u32.wrap ((BitVec.ofInt 32 x ||| BitVec.ofInt 32 y).toNat : Int) := rfl
theorem bo_u8 (x y : Int) : Go.bits .or .u8 x y = IntKind.u8.wrap ((BitVec.ofInt 8 x ||| BitVec.ofInt 8 y).toNat : Int) := rfl
theorem ba_u8 (x y : Int) : Go.bits .and .u8 x y = IntKind.u8.wrap ((BitVec.ofInt 8 x &&& BitVec.ofInt 8 y).toNat : Int) := rfl
theorem rd_drop (l : List Int) (i : Nat) (h : i < l.length) : l.drop i = rd l i :: l.drop (i + 1) := by
  rw [List.drop_eq_getElem_cons h]; congr 1; simp [rd, List.getElem?_eq_getElem h]
theorem rd_mem (l : List Int) (i : Nat) (h : i < l.length) : rd l i ∈ l := by
  simp [rd, List.getElem?_eq_getElem h]
theorem cut01 (l : List Int) (n : Nat) : inquestref01_Cut.f l n = some (l.take n) := by
  unfold inquestref01_Cut.f
  by_cases c : l.length ≤ n
  · rw [if_neg (by omega), List.take_of_length_le c]
  · rw [if_pos (by omega), if_pos (by omega), if_pos (by omega), Int.toNat_natCast]
theorem wf_u8 {x : Int} (h : (Lit.int .u8 x).wf = true) : 0 ≤ x ∧ x < 256 := by
  simp [Lit.wf, IntKind.min, IntKind.max, IntKind.signed, IntKind.bits] at h; omega
theorem wf_u8s {l : List Int} (h : ∀ x ∈ l, (Lit.int .u8 x).wf = true) : ∀ x ∈ l, 0 ≤ x ∧ x < 256 := fun x hx => wf_u8 (h x hx)
theorem same01_l0 (d : Nat) : ∀ (a b : List Int) (i : Nat), a.length = b.length → a.length ≤ 9223372036854775806 → a.length - i = d → i ≤ a.length →
    Ev (fun k => inquestref01_Same.l0 k a b i) (decide (a.drop i = b.drop i)) := by
  induction d with
  | zero =>
    intro a b i h hl hd hi
    refine ⟨1, fun k hk => ?_⟩
    obtain ⟨k, rfl⟩ : ∃ j, k = j + 1 := ⟨k - 1, by omega⟩
    simp only [inquestref01_Same.l0]; rw [if_neg (by omega), List.drop_of_length_le (by omega), List.drop_of_length_le (by omega)]; simp
  | succ d ih =>
    intro a b i h hl hd hi
    have e : (a.drop i = b.drop i) ↔ (rd a i = rd b i ∧ a.drop (i + 1) = b.drop (i + 1)) := by
      rw [List.drop_eq_getElem_cons (show i < a.length by omega), List.drop_eq_getElem_cons (show i < b.length by omega), List.cons.injEq]
      simp [rd, List.getElem?_eq_getElem (show i < a.length by omega), List.getElem?_eq_getElem (show i < b.length by omega)]
    by_cases c : rd a i = rd b i
    · have h' := ih a b (i + 1) h hl (by omega) (by omega)
      rw [show decide (a.drop i = b.drop i) = decide (a.drop (i + 1) = b.drop (i + 1)) from by simp [e, c]]
      refine Ev.step (fun k => ?_) h'
      simp only [inquestref01_Same.l0]
      rw [if_pos (by omega), if_pos (by omega), if_pos (by omega), if_pos c, w64 (by omega) (by omega)]; rfl
    · refine ⟨1, fun k hk => ?_⟩
      obtain ⟨k, rfl⟩ : ∃ j, k = j + 1 := ⟨k - 1, by omega⟩
      simp only [inquestref01_Same.l0]
      rw [if_pos (by omega), if_pos (by omega), if_pos (by omega), if_neg c]; simp [e, c]
/-- What Same answers: whether the lists are the same. -/
theorem same01 (a b : List Int) (hl : a.length ≤ 9223372036854775806) : Ev (fun k => inquestref01_Same.f k a b) (decide (a = b)) := by
  by_cases h : a.length = b.length
  · have h' := same01_l0 a.length a b 0 h hl (by omega) (by omega)
    simp only [List.drop_zero] at h'
    refine Ev.congr (fun k => ?_) h'
    unfold inquestref01_Same.f
    rw [if_pos (by omega)]; rfl
  · have n : a ≠ b := fun e => h (by rw [e])
    rw [decide_eq_false n]
    refine Ev.congr (fun k => ?_) (Ev.now false)
    unfold inquestref01_Same.f
    rw [if_neg (by omega)]
theorem same01_t (a b : List Int) (hl : a.length ≤ 9223372036854775806) (h : a = b) : Ev (fun k => inquestref01_Same.f k a b) true := by
  have := same01 a b hl; rwa [decide_eq_true h] at this
theorem xor0 (x : Int) : Go.bits .xor .u64 x 0 = IntKind.u64.wrap x := by
  rw [bx_u64, show BitVec.ofInt 64 0 = 0#64 from rfl, BitVec.xor_zero, BitVec.toNat_ofInt, wu64, wu64]; omega
theorem xor0i (x : Int) : Go.bits .xor .i64 x 0 = wrap64 x := by
  rw [bx_i64, show BitVec.ofInt 64 0 = 0#64 from rfl, BitVec.xor_zero, BitVec.toNat_ofInt, wi64]; unfold wrap64; omega
theorem xor1 (x : Int) : Go.bits .xor .u64 x 18446744073709551615 = 18446744073709551615 - x % 18446744073709551616 := by
  rw [bx_u64, show BitVec.ofInt 64 18446744073709551615 = BitVec.allOnes 64 from by decide, BitVec.xor_allOnes, BitVec.toNat_not, wu64, BitVec.toNat_ofInt]; omega
theorem xor1i (x : Int) (h : -9223372036854775808 ≤ x) (h' : x ≤ 9223372036854775807) : Go.bits .xor .i64 x (-1) = -x - 1 := by
  rw [bx_i64, show BitVec.ofInt 64 (-1) = BitVec.allOnes 64 from by decide, BitVec.xor_allOnes, BitVec.toNat_not, wi64, BitVec.toNat_ofInt]; unfold wrap64; omega
theorem and1 (x : Int) : Go.bits .and .u64 x 1 = x % 2 := by
  rw [ba_u64, BitVec.toNat_and, show (BitVec.ofInt 64 1).toNat = 1 from by decide, Nat.and_one_is_mod, BitVec.toNat_ofInt, wu64]; omega
/-- A number, folded. -/
def zigZ (x : Int) : Int := if 0 ≤ x then 2 * x else -2 * x - 1
def zagZ (u : Int) : Int := if u % 2 = 0 then u / 2 else -(u / 2) - 1
theorem word_Zig_is (x : Int) (h : -9223372036854775808 ≤ x) (h' : x ≤ 9223372036854775807) : word_Zig.f x = some (zigZ x) := by
  unfold word_Zig.f zigZ
  by_cases c : 0 ≤ x
  · rw [show x / 9223372036854775808 = 0 from by omega, wu64 0, show (0 : Int) % 18446744073709551616 = 0 from rfl, xor0, if_pos c]
    simp only [wu64]; congr 1; omega
  · rw [show x / 9223372036854775808 = -1 from by omega, wu64 (-1), show (-1 : Int) % 18446744073709551616 = 18446744073709551615 from rfl, xor1, if_neg c]
    simp only [wu64]; congr 1; omega
theorem word_Zag_is (u : Int) (h : 0 ≤ u) (h' : u < 18446744073709551616) : word_Zag.f u = some (zagZ u) := by
  unfold word_Zag.f zagZ
  rw [and1]
  by_cases c : u % 2 = 0
  · rw [c, w64 (by omega) (by omega), w64 (i := 0) (by omega) (by omega), show wrap64 (-0) = 0 from by decide +kernel, xor0i, w64 (by omega) (by omega), if_pos rfl]
  · rw [show u % 2 = 1 from by omega, w64 (by omega) (by omega), w64 (i := 1) (by omega) (by omega), w64 (i := -1) (by omega) (by omega), xor1i _ (by omega) (by omega), if_neg (by omega)]
theorem zag_zig (x : Int) : zagZ (zigZ x) = x := by unfold zigZ zagZ; split <;> split <;> omega
theorem zig_zag (u : Int) (h : 0 ≤ u) : zigZ (zagZ u) = u := by unfold zigZ zagZ; split <;> split <;> omega
theorem zig_lo (x : Int) (h : -9223372036854775808 ≤ x) (h' : x ≤ 9223372036854775807) : 0 ≤ zigZ x ∧ zigZ x < 18446744073709551616 := by unfold zigZ; split <;> omega
theorem zag_lo (u : Int) (h : 0 ≤ u) (h' : u < 18446744073709551616) : -9223372036854775808 ≤ zagZ u ∧ zagZ u ≤ 9223372036854775807 := by unfold zagZ; split <;> omega
/-- A short number's bytes; d: one less than as many as it may have. -/
def varL : Nat → Int → List Int
  | 0, x => [x]
  | d + 1, x => if 128 ≤ x then (x % 128 + 128) :: varL d (x / 128) else [x]
theorem varL_len (d : Nat) : ∀ x, 1 ≤ (varL d x).length ∧ (varL d x).length ≤ d + 1 := by
  induction d with
  | zero => intro x; simp [varL]
  | succ d ih => intro x; unfold varL; split <;> simp; exact ih _ |>.2
theorem varL_more (d : Nat) : ∀ (x : Int) (e : Nat), x < 128 ^ (d + 1) → d ≤ e → varL e x = varL d x := by
  induction d with
  | zero =>
    intro x e h _
    cases e with
    | zero => rfl
    | succ e => unfold varL; rw [if_neg (by simp at h; omega)]
  | succ d ih =>
    intro x e h he
    obtain ⟨e, rfl⟩ : ∃ m, e = m + 1 := ⟨e - 1, by omega⟩
    have p : (128 : Int) ^ (d + 1 + 1) = 128 ^ (d + 1) * 128 := Int.pow_succ ..
    unfold varL
    split
    · rw [ih _ _ (by omega) (by omega)]
    · rfl
theorem or128 (x : Int) : Go.bits .or .u8 (x % 256) 128 = x % 128 + 128 := by
  have key : ∀ y : Nat, y < 256 → Go.bits .or .u8 (y : Int) 128 = (y : Int) % 128 + 128 := by decide +kernel
  have := key (x % 256).toNat (by omega)
  rw [show (((x % 256).toNat : Nat) : Int) = x % 256 from by omega] at this
  rw [this]; omega
theorem pow128_le (n : Nat) (h : n ≤ 9) : (128 : Int) ^ n ≤ 9223372036854775808 := by
  have h2 : (128 : Int) ^ n * 128 ^ (9 - n) = 9223372036854775808 := by rw [← Int.pow_add, show n + (9 - n) = 9 from by omega]; decide
  have h3 : (0 : Int) < 128 ^ (9 - n) := Int.pow_pos (by decide)
  have h4 : (0 : Int) < 128 ^ n := Int.pow_pos (by decide)
  calc (128 : Int) ^ n = 128 ^ n * 1 := by omega
    _ ≤ 128 ^ n * 128 ^ (9 - n) := Int.mul_le_mul_of_nonneg_left (by omega) (by omega)
    _ = _ := h2
theorem u64_128 {x : Int} (h : x < 18446744073709551616) : x < 128 ^ (9 + 1) := by
  have : (128 : Int) ^ (9 + 1) = 1180591620717411303424 := by decide
  omega
theorem word_Var_l0 (d : Nat) : ∀ (x : Int) (xs : List Int), 0 ≤ x → x < 128 ^ (d + 1) → xs.length + d ≤ 20 → Ev (fun k => word_Var.l0 k x xs) (xs ++ varL d x) := by
  induction d with
  | zero =>
    intro x xs h0 hx hl
    refine Ev.step (f := fun _ => some (xs ++ [x])) (fun k => ?_) (Ev.now _)
    simp only [word_Var.l0]
    rw [if_neg (by simp at hx; omega), if_pos (by omega), Int.emod_eq_of_lt h0 (by simp at hx; omega)]
  | succ d ih =>
    intro x xs h0 hx hl
    have p : (128 : Int) ^ (d + 1 + 1) = 128 ^ (d + 1) * 128 := Int.pow_succ ..
    by_cases c : 128 ≤ x
    · have g := ih (x / 128) (xs ++ [x % 128 + 128]) (by omega) (by omega) (by simp; omega)
      rw [show varL (d + 1) x = (x % 128 + 128) :: varL d (x / 128) from by rw [varL, if_pos c]]
      rw [List.append_assoc] at g
      refine Ev.step (fun k => ?_) g
      simp only [word_Var.l0]
      rw [if_pos (by omega), if_pos (by omega), or128]
    · rw [show varL (d + 1) x = [x] from by rw [varL, if_neg c]]
      refine Ev.step (f := fun _ => some (xs ++ [x])) (fun k => ?_) (Ev.now _)
      simp only [word_Var.l0]
      rw [if_neg (by omega), if_pos (by omega), Int.emod_eq_of_lt h0 (by omega)]
theorem word_Var_ev (x : Int) (h0 : 0 ≤ x) (h1 : x < 18446744073709551616) : Ev (fun k => word_Var.f k x) (varL 9 x) :=
  word_Var_l0 9 x [] h0 (u64_128 h1) (by simp)
/-- What a short number's bytes say from place i on: the number, how many bytes it has from there on, the error. -/
def readR : Nat → List Int → Int × Int × Int
  | _, [] => (0, 0, 3)
  | i, c :: l => if i = 9 ∧ 1 < c ∨ 0 < i ∧ c = 0 then (0, 0, 4) else if c < 128 then (c, 1, 0) else
    if (readR (i + 1) l).2.2 = 0 then (c - 128 + 128 * (readR (i + 1) l).1, (readR (i + 1) l).2.1 + 1, 0) else (0, 0, (readR (i + 1) l).2.2)
theorem readR_bd : ∀ (l : List Int) (i : Nat), i ≤ 9 → (∀ c ∈ l, 0 ≤ c ∧ c < 256) → 0 ≤ (readR i l).1 ∧ (readR i l).1 * 128 ^ i < 18446744073709551616 ∧ 0 ≤ (readR i l).2.1 ∧ (readR i l).2.1 ≤ l.length ∧ ((readR i l).2.2 = 0 → 1 ≤ (readR i l).2.1 ∧ (readR i l).2.1 + i ≤ 10 ∧ (0 < i → 0 < (readR i l).1)) ∧ ((readR i l).2.2 ≠ 0 → (readR i l).1 = 0 ∧ (readR i l).2.1 = 0)
  | [], i, hi, _ => by simp [readR]
  | c :: l, i, hi, hb => by
    have hc := hb c (by simp)
    unfold readR
    have p := pow128_le i hi
    have q : (0 : Int) < 128 ^ i := Int.pow_pos (by decide)
    split
    · simp; omega
    · rename_i h1
      split
      · rename_i h2
        refine ⟨hc.1, ?_, by simp, by simp; omega, fun _ => ⟨by simp, by simp; omega, fun h => by simp; omega⟩, fun h => by simp at h⟩
        by_cases h9 : i = 9
        · subst h9
          have : c = 1 ∨ c = 0 := by omega
          rcases this with rfl | rfl <;> simp
        · have p := pow128_le (i + 1) (by omega)
          have e : (128 : Int) ^ (i + 1) = 128 ^ i * 128 := Int.pow_succ ..
          have : c * 128 ^ i ≤ 127 * 128 ^ i := Int.mul_le_mul_of_nonneg_right (by omega) (by omega)
          simp only; omega
      · rename_i h2
        have h9 : i < 9 := by omega
        obtain ⟨a, b, c1, d, e, f⟩ := readR_bd l (i + 1) (by omega) (fun x hx => hb x (by simp [hx]))
        split
        · rename_i h3
          obtain ⟨e1, e2, e3⟩ := e h3
          have e3 := e3 (by omega)
          refine ⟨by simp only; omega, ?_, by simp only; omega, by simp; omega, fun _ => ⟨by simp only; omega, by simp only; omega, fun h => by simp only; omega⟩, fun h => by simp at h⟩
          have ex : (128 : Int) ^ (i + 1) = 128 ^ i * 128 := Int.pow_succ ..
          have hm : (readR (i + 1) l).1 * 128 ^ (i + 1) + 128 ^ (i + 1) ≤ 18446744073709551616 := by
            have hd : (18446744073709551616 : Int) = 128 ^ (i + 1) * (2 * 128 ^ (8 - i)) := by
              rw [show (128 : Int) ^ (i + 1) * (2 * 128 ^ (8 - i)) = 2 * (128 ^ (i + 1) * 128 ^ (8 - i)) from by rw [Int.mul_left_comm], ← Int.pow_add, show i + 1 + (8 - i) = 9 from by omega]; decide
            have hlt : (readR (i + 1) l).1 < 2 * 128 ^ (8 - i) := by
              rw [hd, Int.mul_comm] at b
              exact Int.lt_of_mul_lt_mul_left b (Int.le_of_lt (Int.pow_pos (by decide)))
            rw [hd]
            calc (readR (i + 1) l).1 * 128 ^ (i + 1) + 128 ^ (i + 1) = 128 ^ (i + 1) * ((readR (i + 1) l).1 + 1) := by rw [Int.mul_add, Int.mul_one, Int.mul_comm]
              _ ≤ _ := Int.mul_le_mul_of_nonneg_left (by omega) (Int.le_of_lt (Int.pow_pos (by decide)))
          have hk : (c - 128) * 128 ^ i ≤ 127 * 128 ^ i := Int.mul_le_mul_of_nonneg_right (by omega) (by omega)
          have hs : (c - 128 + 128 * (readR (i + 1) l).1) * 128 ^ i = (c - 128) * 128 ^ i + (readR (i + 1) l).1 * 128 ^ (i + 1) := by
            rw [Int.add_mul, ex, Int.mul_comm 128 (readR (i + 1) l).1, Int.mul_assoc, Int.mul_comm 128 (128 ^ i)]
          simp only; rw [hs]; omega
        · refine ⟨by simp, by simp, by simp, by simp; omega, fun h => ?_, fun _ => ⟨rfl, rfl⟩⟩
          rename_i h3; exact absurd h h3
theorem and127 (c : Int) (h0 : 0 ≤ c) (h1 : c < 256) : Go.bits .and .u8 c 127 = c % 128 := by
  have key : ∀ y : Nat, y < 256 → Go.bits .and .u8 (y : Int) 127 = (y : Int) % 128 := by decide +kernel
  have := key c.toNat (by omega)
  rwa [show ((c.toNat : Nat) : Int) = c from by omega] at this
theorem or_add (x y : Int) (n : Nat) (h0 : 0 ≤ x) (h1 : x < 128 ^ n) (y0 : 0 ≤ y) (h : x + y * 128 ^ n < 18446744073709551616) : Go.bits .or .u64 x (y * 128 ^ n) = x + y * 128 ^ n := by
  obtain ⟨x, rfl⟩ := Int.eq_ofNat_of_zero_le h0
  obtain ⟨y, rfl⟩ := Int.eq_ofNat_of_zero_le y0
  have e : (128 : Int) ^ n = ((2 ^ (7 * n) : Nat) : Int) := by rw [Nat.pow_mul]; simp
  have q : (0 : Int) < 128 ^ n := Int.pow_pos (by decide)
  rw [e] at h h1 q ⊢
  have e2 : ((y : Int) * ((2 ^ (7 * n) : Nat) : Int)) = ((2 ^ (7 * n) * y : Nat) : Int) := by rw [Nat.mul_comm (2 ^ (7 * n))]; simp
  rw [e2] at h ⊢
  have hx : x < 18446744073709551616 := by omega
  rw [bo_u64, BitVec.toNat_or, BitVec.toNat_ofInt, BitVec.toNat_ofInt, wu64, show ((x : Int) % ((2 ^ 64 : Nat) : Int)).toNat = x from by omega, show (((2 ^ (7 * n) * y : Nat) : Int) % ((2 ^ 64 : Nat) : Int)).toNat = 2 ^ (7 * n) * y from by omega, Nat.or_comm, ← Nat.two_pow_add_eq_or_of_lt (by omega)]
  omega
theorem word_ReadVar_l0 : ∀ (d : Nat) (b : List Int) (x : Int) (i : Nat), (∀ c ∈ b, 0 ≤ c ∧ c < 256) → b.length - i = d → i ≤ b.length → i ≤ 9 → b.length ≤ 140737488351232 → 0 ≤ x → x < 128 ^ i →
    Ev (fun k => word_ReadVar.l0 k x b (b.length : Int) i) (if (readR i (b.drop i)).2.2 = 0 then (x + (readR i (b.drop i)).1 * 128 ^ i, i + (readR i (b.drop i)).2.1, 0) else (0, 0, (readR i (b.drop i)).2.2)) := by
  intro d
  induction d with
  | zero =>
    intro b x i hb hd hi h9 hl h0 hx
    rw [List.drop_of_length_le (by omega)]
    refine Ev.step (f := fun _ => some (0, 0, 3)) (fun k => ?_) (Ev.now _)
    simp only [word_ReadVar.l0]; rw [if_neg (by omega)]
  | succ d ih =>
    intro b x i hb hd hi h9 hl h0 hx
    have hc := hb _ (rd_mem b i (by omega))
    have hbd := readR_bd (b.drop i) i h9 (fun c hc => hb c (List.mem_of_mem_drop hc))
    rw [rd_drop b i (by omega)] at hbd ⊢
    have p := pow128_le i h9
    have q : (0 : Int) < 128 ^ i := Int.pow_pos (by decide)
    have start : ∀ k, word_ReadVar.l0 (k + 1) x b (b.length : Int) i = word_ReadVar.j1 k x i (rd b i) b (b.length : Int) i (decide (i = 9 ∧ 1 < rd b i)) := by
      intro k
      simp only [word_ReadVar.l0]
      rw [if_pos (by omega), if_pos (by omega), if_pos (by omega)]
      by_cases c9 : i = 9
      · rw [if_pos (by omega)]; congr 1; simp [c9]
      · rw [if_neg (by omega), decide_eq_false (by omega)]
    have e7 : ∀ c : Int, 0 ≤ c → c < 256 → shl .u64 (IntKind.u64.wrap (Go.bits .and .u8 c 127)) (wrap64 (7 * (i : Int))) = (c % 128) * 128 ^ i % 18446744073709551616 := by
      intro c c0 c1
      unfold shl
      rw [and127 c c0 c1, wu64, wu64, w64 (by omega) (by omega), show (7 * (i : Int)).toNat = 7 * i from by omega, show min (7 * i) IntKind.u64.bits = 7 * i from Nat.min_eq_left (by simp only [IntKind.bits]; omega), Int.emod_eq_of_lt (a := c % 128) (by omega) (by omega), Int.pow_mul]; rfl
    refine Ev.step start ?_
    have er : readR i (rd b i :: b.drop (i + 1)) = if i = 9 ∧ 1 < rd b i ∨ 0 < i ∧ rd b i = 0 then (0, 0, 4) else if rd b i < 128 then (rd b i, 1, 0) else
      if (readR (i + 1) (b.drop (i + 1))).2.2 = 0 then (rd b i - 128 + 128 * (readR (i + 1) (b.drop (i + 1))).1, (readR (i + 1) (b.drop (i + 1))).2.1 + 1, 0) else (0, 0, (readR (i + 1) (b.drop (i + 1))).2.2) := by rw [readR]
    by_cases f1 : i = 9 ∧ 1 < rd b i
    · rw [if_pos (.inl f1)] at er
      rw [er, decide_eq_true f1]
      exact Ev.step (f := fun _ => some (0, 0, 4)) (fun k => by simp [word_ReadVar.j1]) (Ev.now _)
    · rw [decide_eq_false f1]
      by_cases f2 : 0 < i ∧ rd b i = 0
      · rw [if_pos (.inr f2)] at er
        rw [er]
        refine Ev.step (f := fun _ => some (0, 0, 4)) (fun k => ?_) (Ev.now _)
        simp only [word_ReadVar.j1]
        rw [if_neg (by simp), if_pos (by rw [w64 (by omega) (by omega)]; omega), if_pos (by omega), if_pos f2.2, if_pos (by omega)]
      · rw [if_neg (by omega)] at er
        by_cases f3 : rd b i < 128
        · rw [if_pos f3] at er
          rw [er]
          simp only [if_true]
          have hlt : x + rd b i * 128 ^ i < 18446744073709551616 := by
            by_cases h9' : i = 9
            · have : rd b i = 1 ∨ rd b i = 0 := by omega
              have e9 : (128 : Int) ^ i = 9223372036854775808 := by rw [h9']; decide
              rw [e9] at hx ⊢
              rcases this with e | e <;> rw [e] <;> omega
            · have p := pow128_le (i + 1) (by omega)
              have e : (128 : Int) ^ (i + 1) = 128 ^ i * 128 := Int.pow_succ ..
              have : rd b i * 128 ^ i ≤ 127 * 128 ^ i := Int.mul_le_mul_of_nonneg_right (by omega) (by omega)
              omega
          have o := or_add x (rd b i) i h0 hx hc.1 hlt
          refine Ev.step (f := fun _ => some (x + rd b i * 128 ^ i, (i : Int) + 1, 0)) (fun k => ?_) (Ev.now _)
          have hm : 0 ≤ rd b i * 128 ^ i := Int.mul_nonneg hc.1 (by omega)
          simp only [word_ReadVar.j1]
          rw [if_neg (by simp), if_pos (by rw [w64 (by omega) (by omega)]; omega), if_pos f3, e7 _ hc.1 hc.2, Int.emod_eq_of_lt (a := rd b i) (by omega) f3, Int.emod_eq_of_lt (a := rd b i * 128 ^ i) hm (by omega), o, w64 (i := (i : Int) + 1) (by omega) (by omega)]
          by_cases f4 : rd b i = 0
          · rw [if_pos f4, if_neg (by omega)]
          · rw [if_neg f4]
        · rw [if_neg f3] at er
          rw [er]
          have h8 : i < 9 := by omega
          have p2 := pow128_le (i + 1) (by omega)
          have e : (128 : Int) ^ (i + 1) = 128 ^ i * 128 := Int.pow_succ ..
          have hk : (rd b i - 128) * 128 ^ i ≤ 127 * 128 ^ i := Int.mul_le_mul_of_nonneg_right (by omega) (by omega)
          have hm : 0 ≤ (rd b i - 128) * 128 ^ i := Int.mul_nonneg (by omega) (by omega)
          have o := or_add x (rd b i - 128) i h0 hx (by omega) (by omega)
          have g := ih b (x + (rd b i - 128) * 128 ^ i) (i + 1) hb (by omega) (by omega) (by omega) hl (by omega) (by omega)
          have fin : (if (readR (i + 1) (b.drop (i + 1))).2.2 = 0 then (x + (rd b i - 128) * 128 ^ i + (readR (i + 1) (b.drop (i + 1))).1 * 128 ^ (i + 1), ((i + 1 : Nat) : Int) + (readR (i + 1) (b.drop (i + 1))).2.1, (0 : Int)) else (0, 0, (readR (i + 1) (b.drop (i + 1))).2.2)) = (if (if (readR (i + 1) (b.drop (i + 1))).2.2 = 0 then (rd b i - 128 + 128 * (readR (i + 1) (b.drop (i + 1))).1, (readR (i + 1) (b.drop (i + 1))).2.1 + 1, (0 : Int)) else (0, 0, (readR (i + 1) (b.drop (i + 1))).2.2)).2.2 = 0 then (x + (if (readR (i + 1) (b.drop (i + 1))).2.2 = 0 then (rd b i - 128 + 128 * (readR (i + 1) (b.drop (i + 1))).1, (readR (i + 1) (b.drop (i + 1))).2.1 + 1, (0 : Int)) else (0, 0, (readR (i + 1) (b.drop (i + 1))).2.2)).1 * 128 ^ i, (i : Int) + (if (readR (i + 1) (b.drop (i + 1))).2.2 = 0 then (rd b i - 128 + 128 * (readR (i + 1) (b.drop (i + 1))).1, (readR (i + 1) (b.drop (i + 1))).2.1 + 1, (0 : Int)) else (0, 0, (readR (i + 1) (b.drop (i + 1))).2.2)).2.1, (0 : Int)) else (0, 0, (if (readR (i + 1) (b.drop (i + 1))).2.2 = 0 then (rd b i - 128 + 128 * (readR (i + 1) (b.drop (i + 1))).1, (readR (i + 1) (b.drop (i + 1))).2.1 + 1, (0 : Int)) else (0, 0, (readR (i + 1) (b.drop (i + 1))).2.2)).2.2)) := by
            generalize readR (i + 1) (b.drop (i + 1)) = r
            by_cases h : r.2.2 = 0
            · simp only [if_pos h, if_true]
              congr 1
              · rw [Int.add_mul, e, Int.mul_comm 128 r.1, Int.mul_assoc, Int.mul_comm 128 (128 ^ i)]; omega
              · congr 1; omega
            · simp only [if_neg h]
          rw [fin] at g
          refine Ev.step (fun k => ?_) g
          simp only [word_ReadVar.j1]
          rw [if_neg (by simp), if_pos (by rw [w64 (by omega) (by omega)]; omega), if_neg f3, e7 _ hc.1 hc.2, show rd b i % 128 = rd b i - 128 from by omega, Int.emod_eq_of_lt (a := (rd b i - 128) * 128 ^ i) hm (by omega), o, w64 (i := (i : Int) + 1) (by omega) (by omega)]
          rfl
theorem word_ReadVar_ev (b : List Int) (hb : ∀ c ∈ b, 0 ≤ c ∧ c < 256) (hl : b.length ≤ 140737488351232) : Ev (fun k => word_ReadVar.f k b) (readR 0 b) := by
  have g := word_ReadVar_l0 b.length b 0 0 hb rfl (by omega) (by omega) hl (by omega) (by decide)
  have d := readR_bd b 0 (by omega) hb
  rw [List.drop_zero] at g
  have e : (if (readR 0 b).2.2 = 0 then ((0 : Int) + (readR 0 b).1 * 128 ^ 0, ((0 : Nat) : Int) + (readR 0 b).2.1, (0 : Int)) else (0, 0, (readR 0 b).2.2)) = readR 0 b := by
    rcases h : readR 0 b with ⟨v, n, e⟩
    rw [h] at d
    by_cases c : e = 0
    · simp [c]
    · obtain ⟨rfl, rfl⟩ := d.2.2.2.2.2 c
      simp [c]
  rw [e] at g
  exact g
/-- The number that low sevens of bits are, the lowest first. -/
def valL : List Int → Int
  | [] => 0
  | c :: l => c % 128 + 128 * valL l
theorem valL_nonneg : ∀ l, 0 ≤ valL l
  | [] => by simp [valL]
  | c :: l => by have := valL_nonneg l; unfold valL; omega
theorem valL_drop : ∀ (j : Nat) (l : List Int), valL (l.drop j) ≤ valL l
  | 0, l => by simp
  | j + 1, [] => by simp
  | j + 1, c :: l => by
    have := valL_drop j l
    have := valL_nonneg l
    rw [List.drop_succ_cons]
    show _ ≤ c % 128 + 128 * valL l
    omega
theorem valL_readR : ∀ (l : List Int) (i : Nat), i ≤ 9 → (∀ c ∈ l, 0 ≤ c ∧ c < 256) → (readR i l).2.2 = 0 → valL (l.take (readR i l).2.1.toNat) = (readR i l).1
  | [], i, hi, _, h => by simp [readR] at h
  | c :: l, i, hi, hb, h => by
    have hc := hb c (by simp)
    unfold readR at h ⊢
    split at h
    · simp at h
    · rename_i h1
      rw [if_neg h1]
      split at h
      · rename_i h2
        rw [if_pos h2]
        simp [valL]; omega
      · rename_i h2
        rw [if_neg h2]
        have h9 : i < 9 := by omega
        have hbd := readR_bd l (i + 1) (by omega) (fun x hx => hb x (by simp [hx]))
        split at h
        · rename_i h3
          rw [if_pos h3]
          have ih := valL_readR l (i + 1) (by omega) (fun x hx => hb x (by simp [hx])) h3
          simp only
          rw [show ((readR (i + 1) l).2.1 + 1).toNat = (readR (i + 1) l).2.1.toNat + 1 from by omega, List.take_succ_cons, valL, ih]
          omega
        · rename_i h3
          exact absurd h h3
theorem r01_ReadVar_l1 (j : Nat) : ∀ (b : List Int) (n : Nat), (∀ c ∈ b, 0 ≤ c ∧ c < 256) → n ≤ b.length → b.length ≤ 140737488351232 → j ≤ n → valL (b.take n) < 18446744073709551616 →
    Ev (fun k => inquestref01_ReadVar.l1 k b n (valL ((b.take n).drop j)) ((j : Int) - 1)) (valL (b.take n), (n : Int), 0) := by
  induction j with
  | zero =>
    intro b n hb hn hl hj hv
    refine Ev.step (f := fun _ => some (valL (b.take n), (n : Int), 0)) (fun k => ?_) (Ev.now _)
    simp only [inquestref01_ReadVar.l1]
    rw [if_neg (by omega), List.drop_zero]
  | succ j ih =>
    intro b n hb hn hl hj hv
    have e : (b.take n).drop j = rd b j :: (b.take n).drop (j + 1) := by
      rw [List.drop_eq_getElem_cons (by simp; omega), List.getElem_take]
      congr 1
      simp [rd, List.getElem?_eq_getElem (show j < b.length by omega)]
    have hc := hb _ (rd_mem b j (by omega))
    have g := ih b n hb hn hl (by omega) hv
    have d := valL_drop j (b.take n)
    rw [e, valL] at g d
    have v0 := valL_nonneg ((b.take n).drop (j + 1))
    refine Ev.step (fun k => ?_) g
    simp only [inquestref01_ReadVar.l1]
    rw [if_pos (by omega), if_pos (by omega), if_pos (by omega), show ((j + 1 : Nat) : Int) - 1 = (j : Int) from by omega, w64 (by omega) (by omega), Int.tmod_eq_emod_of_nonneg hc.1, wu64, wu64, wu64, Int.emod_eq_of_lt (a := 128 * valL ((b.take n).drop (j + 1))) (by omega) (by omega), Int.emod_eq_of_lt (a := rd b j % 128) (by omega) (by omega), Int.emod_eq_of_lt (by omega) (by omega), Int.add_comm]
theorem r01_ReadVar_l0 : ∀ (d : Nat) (b : List Int) (i : Nat), (∀ c ∈ b, 0 ≤ c ∧ c < 256) → b.length - i = d → i ≤ b.length → i ≤ 9 → b.length ≤ 140737488351232 →
    (∀ m v, readR i (b.drop i) = (v, m, 0) → valL (b.take (i + m.toNat)) < 18446744073709551616) →
    Ev (fun k => inquestref01_ReadVar.l0 k b ((i : Int) + 1)) (if (readR i (b.drop i)).2.2 = 0 then (valL (b.take (i + (readR i (b.drop i)).2.1.toNat)), i + (readR i (b.drop i)).2.1, 0) else (0, 0, (readR i (b.drop i)).2.2)) := by
  intro d
  induction d with
  | zero =>
    intro b i hb hd hi h9 hl hv
    rw [List.drop_of_length_le (by omega)]
    refine Ev.step (f := fun k => inquestref01_ReadVar.j1 k b ((i : Int) + 1) false) (fun k => ?_) ?_
    · simp only [inquestref01_ReadVar.l0]; rw [if_neg (by omega)]
    · refine Ev.step (f := fun _ => some (0, 0, 3)) (fun k => ?_) (Ev.now _)
      simp [inquestref01_ReadVar.j1]
  | succ d ih =>
    intro b i hb hd hi h9 hl hv
    have hc := hb _ (rd_mem b i (by omega))
    have hbd := readR_bd (b.drop i) i h9 (fun c hc => hb c (List.mem_of_mem_drop hc))
    rw [rd_drop b i (by omega)] at hbd hv ⊢
    have er : readR i (rd b i :: b.drop (i + 1)) = if i = 9 ∧ 1 < rd b i ∨ 0 < i ∧ rd b i = 0 then (0, 0, 4) else if rd b i < 128 then (rd b i, 1, 0) else
      if (readR (i + 1) (b.drop (i + 1))).2.2 = 0 then (rd b i - 128 + 128 * (readR (i + 1) (b.drop (i + 1))).1, (readR (i + 1) (b.drop (i + 1))).2.1 + 1, 0) else (0, 0, (readR (i + 1) (b.drop (i + 1))).2.2) := by rw [readR]
    refine Ev.step (f := fun k => inquestref01_ReadVar.j1 k b ((i : Int) + 1) true) (fun k => ?_) ?_
    · simp only [inquestref01_ReadVar.l0]; rw [if_pos (by omega), decide_eq_true (by omega)]
    refine Ev.step (f := fun k => inquestref01_ReadVar.j2 k b ((i : Int) + 1) (rd b i) (decide (i = 9 ∧ 1 < rd b i ∨ 0 < i ∧ rd b i = 0))) (fun k => ?_) ?_
    · simp only [inquestref01_ReadVar.j1]
      rw [if_pos trivial, w64 (i := (i : Int) + 1 - 1) (by omega) (by omega), show (i : Int) + 1 - 1 = i from by omega, if_pos (by omega), if_pos (by omega)]
      by_cases c9 : i = 9
      · rw [if_pos (by omega)]
        by_cases c1 : rd b i > 1
        · rw [if_pos c1, decide_eq_true (.inl ⟨c9, c1⟩)]
        · rw [if_neg c1, if_pos (by omega)]; congr 1
          by_cases c0 : rd b i = 0
          · rw [decide_eq_true (.inr ⟨by omega, c0⟩)]; simp [c0]
          · rw [decide_eq_false (by omega)]; simp [c0]
      · rw [if_neg (by omega)]
        by_cases c1 : 0 < i
        · rw [if_pos (by omega)]; congr 1
          by_cases c0 : rd b i = 0
          · rw [decide_eq_true (.inr ⟨by omega, c0⟩)]; simp [c0]
          · rw [decide_eq_false (by omega)]; simp [c0]
        · rw [if_neg (by omega), decide_eq_false (by omega)]
    by_cases f1 : i = 9 ∧ 1 < rd b i ∨ 0 < i ∧ rd b i = 0
    · rw [if_pos f1] at er
      rw [er, decide_eq_true f1]
      exact Ev.step (f := fun _ => some (0, 0, 4)) (fun k => by simp [inquestref01_ReadVar.j2]) (Ev.now _)
    · rw [if_neg f1] at er
      rw [decide_eq_false f1]
      by_cases f3 : rd b i < 128
      · rw [if_pos f3] at er
        rw [er]
        rw [er] at hv
        have hv := hv 1 _ rfl
        simp only [if_true]
        have g := r01_ReadVar_l1 (i + 1) b (i + 1) hb (by omega) hl (by omega) hv
        rw [List.drop_of_length_le (by simp; omega)] at g
        refine Ev.step (fun k => ?_) g
        simp only [inquestref01_ReadVar.j2]
        rw [if_neg (by simp), if_pos f3, w64 (by omega) (by omega)]; rfl
      · rw [if_neg f3] at er
        rw [er]
        rw [er] at hv
        have hr := readR_bd (b.drop (i + 1)) (i + 1) (by omega) (fun c hc => hb c (List.mem_of_mem_drop hc))
        have g := ih b (i + 1) hb (by omega) (by omega) (by omega) hl (fun m v hm => by
          rw [hm] at hv hr
          have := hv (m + 1) _ (if_pos rfl)
          rw [show i + 1 + m.toNat = i + (m + 1).toNat from by have := hr.2.2.1; simp only at this; omega]
          exact this)
        refine Ev.step (f := fun k => inquestref01_ReadVar.l0 k b (((i + 1 : Nat) : Int) + 1)) (fun k => ?_) ?_
        · simp only [inquestref01_ReadVar.j2]
          rw [if_neg (by simp), if_neg f3, w64 (by omega) (by omega)]; rfl
        · have fin : (if (readR (i + 1) (b.drop (i + 1))).2.2 = 0 then (valL (b.take (i + 1 + (readR (i + 1) (b.drop (i + 1))).2.1.toNat)), ((i + 1 : Nat) : Int) + (readR (i + 1) (b.drop (i + 1))).2.1, (0 : Int)) else (0, 0, (readR (i + 1) (b.drop (i + 1))).2.2)) = (if (if (readR (i + 1) (b.drop (i + 1))).2.2 = 0 then (rd b i - 128 + 128 * (readR (i + 1) (b.drop (i + 1))).1, (readR (i + 1) (b.drop (i + 1))).2.1 + 1, (0 : Int)) else (0, 0, (readR (i + 1) (b.drop (i + 1))).2.2)).2.2 = 0 then (valL (b.take (i + (if (readR (i + 1) (b.drop (i + 1))).2.2 = 0 then (rd b i - 128 + 128 * (readR (i + 1) (b.drop (i + 1))).1, (readR (i + 1) (b.drop (i + 1))).2.1 + 1, (0 : Int)) else (0, 0, (readR (i + 1) (b.drop (i + 1))).2.2)).2.1.toNat)), (i : Int) + (if (readR (i + 1) (b.drop (i + 1))).2.2 = 0 then (rd b i - 128 + 128 * (readR (i + 1) (b.drop (i + 1))).1, (readR (i + 1) (b.drop (i + 1))).2.1 + 1, (0 : Int)) else (0, 0, (readR (i + 1) (b.drop (i + 1))).2.2)).2.1, (0 : Int)) else (0, 0, (if (readR (i + 1) (b.drop (i + 1))).2.2 = 0 then (rd b i - 128 + 128 * (readR (i + 1) (b.drop (i + 1))).1, (readR (i + 1) (b.drop (i + 1))).2.1 + 1, (0 : Int)) else (0, 0, (readR (i + 1) (b.drop (i + 1))).2.2)).2.2)) := by
            have h0 := hr.2.2.1
            revert h0
            generalize readR (i + 1) (b.drop (i + 1)) = r
            intro h0
            by_cases h : r.2.2 = 0
            · simp only [if_pos h, if_true]
              rw [show i + 1 + r.2.1.toNat = i + (r.2.1 + 1).toNat from by omega]
              congr 2; omega
            · simp only [if_neg h]
          rw [fin] at g
          exact g
theorem r01_ReadVar_ev (b : List Int) (hb : ∀ c ∈ b, 0 ≤ c ∧ c < 256) (hl : b.length ≤ 140737488351232) : Ev (fun k => inquestref01_ReadVar.f k b) (readR 0 b) := by
  have d := readR_bd b 0 (by omega) hb
  have va := valL_readR b 0 (by omega) hb
  have g := r01_ReadVar_l0 b.length b 0 hb rfl (by omega) (by omega) hl (fun m v h => by
    rw [List.drop_zero] at h
    rw [h] at va d
    have := va rfl
    simp only [Nat.zero_add] at this ⊢
    rw [this]; have := d.2.1; simpa using this)
  rw [List.drop_zero] at g
  have e : (if (readR 0 b).2.2 = 0 then (valL (b.take (0 + (readR 0 b).2.1.toNat)), ((0 : Nat) : Int) + (readR 0 b).2.1, (0 : Int)) else (0, 0, (readR 0 b).2.2)) = readR 0 b := by
    rw [Nat.zero_add]
    by_cases c : (readR 0 b).2.2 = 0
    · rw [if_pos c, va c, ← c]; simp
    · rw [if_neg c, ← (d.2.2.2.2.2 c).1]; 
      rcases h : readR 0 b with ⟨v, n, e⟩
      rw [h] at d
      obtain ⟨rfl, rfl⟩ := d.2.2.2.2.2 (by rw [h] at c; exact c)
      rfl
  rw [e] at g
  exact g
theorem r01_Var_d (d : Nat) : ∀ (x : Int), 0 ≤ x → x < 18446744073709551616 → x < 128 ^ (d + 1) → d ≤ 20 → Ev (fun k => inquestref01_Var.f k x) (varL d x) := by
  induction d with
  | zero =>
    intro x h0 h1 hx _
    refine Ev.step (f := fun _ => some [x]) (fun k => ?_) (Ev.now _)
    simp only [inquestref01_Var.f]
    rw [if_pos (by simp at hx; omega), Int.emod_eq_of_lt h0 (by simp at hx; omega)]
  | succ d ih =>
    intro x h0 h1 hx hd
    have p : (128 : Int) ^ (d + 1 + 1) = 128 ^ (d + 1) * 128 := Int.pow_succ ..
    by_cases c : 128 ≤ x
    · rw [show varL (d + 1) x = (x % 128 + 128) :: varL d (x / 128) from by rw [varL, if_pos c]]
      have l := varL_len d (x / 128)
      refine Ev.step (f := fun k => (inquestref01_Var.f k (x / 128)).bind fun t134 => if ([x % 128 + 128] : List Int).length + t134.length < 140737488355328 then some ([x % 128 + 128] ++ t134) else none) (fun k => ?_) ?_
      · simp only [inquestref01_Var.f]
        rw [if_neg (by omega)]
        simp only [Option.bind_some]
        rw [Int.tdiv_eq_ediv_of_nonneg h0, Int.tmod_eq_emod_of_nonneg h0, wu64, wu64, Int.emod_eq_of_lt (a := x / 128) (by omega) (by omega), show (128 + x % 128) % 18446744073709551616 % 256 = x % 128 + 128 from by omega]
      · refine Ev.bind (f := fun _ t134 => if ([x % 128 + 128] : List Int).length + t134.length < 140737488355328 then some ([x % 128 + 128] ++ t134) else none) (ih (x / 128) (by omega) (by omega) (by omega) (by omega)) ?_
        exact Ev.congr (fun _ => if_pos (by simp; omega)) (Ev.now _)
    · rw [show varL (d + 1) x = [x] from by rw [varL, if_neg c]]
      refine Ev.step (f := fun _ => some [x]) (fun k => ?_) (Ev.now _)
      simp only [inquestref01_Var.f]
      rw [if_pos (by omega), Int.emod_eq_of_lt h0 (by omega)]
theorem r01_Var_ev (x : Int) (h0 : 0 ≤ x) (h1 : x < 18446744073709551616) : Ev (fun k => inquestref01_Var.f k x) (varL 9 x) :=
  r01_Var_d 9 x h0 h1 (u64_128 h1) (by omega)
theorem r01_Zig_is (x : Int) (h : -9223372036854775808 ≤ x) (h' : x ≤ 9223372036854775807) : inquestref01_Zig.f x = some (zigZ x) := by
  unfold inquestref01_Zig.f zigZ
  by_cases c : 0 ≤ x
  · rw [if_pos c, if_pos c]; simp only [wu64]; congr 1; omega
  · rw [if_neg c, if_neg c]; rw [w64 (i := x + 1) (by omega) (by omega), w64 (by omega) (by omega)]; simp only [wu64]; congr 1; omega
def chkZ (L : List S44) : Int × Int := hist_Check.z L 0 0 (List.replicate 16 false)
theorem r14_Check_is (L : List S44) (hl : L.length ≤ 1000) : inquestref14_Check.f L = some (chkZ L) := if_pos hl
theorem few14 (l : List S44) (n : Nat) (hn : n ≤ 1000) (h : l.length ≤ maxLen) : inquestref14_Few.f l n = some (l.take n) := by
  unfold inquestref14_Few.f
  have e : ([] : List S44).length = 0 := rfl
  by_cases c : l.length ≤ n
  · rw [if_neg (by omega), if_pos (by rw [e]; omega), List.take_of_length_le c]; rfl
  · rw [if_pos (by omega), if_pos (by omega), if_pos (by omega)]
    simp only [Option.bind_some, Int.toNat_natCast]
    rw [if_pos (by rw [e, List.length_take]; omega)]; rfl
theorem same14_l0 (d : Nat) : ∀ (a : List S44) (i : Nat), a.length ≤ 9223372036854775806 → a.length - i = d → i ≤ a.length → Ev (fun k => inquestref14_Same.l0 k a a i) true := by
  induction d with
  | zero =>
    intro a i hl hd hi
    refine Ev.step (f := fun _ => some true) (fun k => ?_) (Ev.now _)
    simp only [inquestref14_Same.l0]; rw [if_neg (by omega)]
  | succ d ih =>
    intro a i hl hd hi
    refine Ev.step (fun k => ?_) (ih a (i + 1) hl (by omega) (by omega))
    simp only [inquestref14_Same.l0]
    rw [if_pos (by omega), if_pos (by omega), if_pos (by omega), if_neg (by simp), w64 (by omega) (by omega)]; rfl
theorem same14_t (a : List S44) (hl : a.length ≤ 9223372036854775806) : Ev (fun k => inquestref14_Same.f k a a) true := by
  refine Ev.congr (fun k => ?_) (same14_l0 a.length a 0 hl (by omega) (by omega))
  unfold inquestref14_Same.f
  rw [if_pos rfl]; rfl
theorem lives14 : inquestlaw14_lives.f = some true := by decide +kernel
def WfE (x : S44) : Prop := -9223372036854775808 ≤ x.f3 ∧ x.f3 ≤ 9223372036854775807
def evT (x : S44) : List Int := (if x.f1 = true then [2 * x.f0 + 1, x.f2] else [2 * x.f0]) ++ varL 9 (zigZ x.f3)
def textE (L : List S44) : List Int := varL 9 L.length ++ L.flatMap evT
def encE (L : List S44) : List Int × Int := if (chkZ L).2 = 0 then (textE L, 0) else ([], (chkZ L).2)
theorem evT_len (x : S44) : 1 ≤ (evT x).length ∧ (evT x).length ≤ 12 := by
  unfold evT
  have := varL_len 9 (zigZ x.f3)
  split <;> simp <;> omega
theorem flatE_len : ∀ (L : List S44), (L.flatMap evT).length ≤ 12 * L.length
  | [] => by simp
  | x :: l => by rw [List.flatMap_cons, List.length_append, List.length_cons]; have := flatE_len l; have := (evT_len x).2; omega
theorem z_good : ∀ (l : List S44) (n : Nat) (c : Int) (xs : List Bool), (hist_Check.z l n c xs).2 = 0 → ∀ x ∈ l, ¬ badE x
  | [], _, _, _, _, x, hx => by simp at hx
  | y :: l, n, c, xs, h, x, hx => by
    by_cases hb : badE y
    · rw [z_bad _ _ _ _ _ hb] at h; exact absurd h (by simp)
    · rw [z_ok _ _ _ _ _ hb] at h
      rcases List.mem_cons.mp hx with rfl | hx
      · exact hb
      · by_cases c1 : y.f1 = true ∧ c = 64
        · rw [if_pos c1] at h; exact absurd h (by simp)
        · rw [if_neg c1] at h
          by_cases c2 : y.f1 = rdOf false xs y.f0
          · rw [if_pos c2] at h; exact absurd h (by simp)
          · rw [if_neg c2] at h; exact z_good l _ _ _ h x hx
theorem rdE_mem (L : List S44) (i : Nat) (h : i < L.length) : rd_T44 L i ∈ L := by simp [rd_T44, List.getElem?_eq_getElem h]
theorem hist_Encode_l0 (d : Nat) : ∀ (L : List S44) (acc : List Int) (i : Nat), (∀ x ∈ L, WfE x ∧ ¬ badE x) → L.length - i = d → i ≤ L.length → L.length ≤ 300 → acc.length ≤ 10 + 12 * i →
    Ev (fun k => hist_Encode.l0 k acc L (L.length : Int) i) (acc ++ (L.drop i).flatMap evT, 0) := by
  induction d with
  | zero =>
    intro L acc i hw hd hi hl ha
    refine Ev.step (f := fun _ => some (acc, 0)) (fun k => ?_) (by rw [List.drop_of_length_le (by omega)]; simpa using Ev.now _)
    simp only [hist_Encode.l0]; rw [if_neg (by omega)]
  | succ d ih =>
    intro L acc i hw hd hi hl ha
    have hlt : i < L.length := by omega
    rw [drop_cons44 L i hlt, List.flatMap_cons, ← List.append_assoc]
    obtain ⟨wf, nb⟩ := hw _ (rdE_mem L i hlt)
    have il := evT_len (rd_T44 L i)
    have g := ih L (acc ++ evT (rd_T44 L i)) (i + 1) hw (by omega) (by omega) hl (by rw [List.length_append]; omega)
    unfold badE at nb
    have w := w64 (i := (i : Int) + 1) (by omega) (by omega)
    have zb := zig_lo _ wf.1 wf.2
    have vl := varL_len 9 (zigZ (rd_T44 L i).f3)
    have w1 := w64 (i := 2 * (rd_T44 L i).f0) (by omega) (by omega)
    have w2 := w64 (i := 2 * (rd_T44 L i).f0 + 1) (by omega) (by omega)
    have m1 : (2 * (rd_T44 L i).f0 + 1) % 256 = 2 * (rd_T44 L i).f0 + 1 := Int.emod_eq_of_lt (by omega) (by omega)
    have m2 : (2 * (rd_T44 L i).f0) % 256 = 2 * (rd_T44 L i).f0 := Int.emod_eq_of_lt (by omega) (by omega)
    have m3 : (rd_T44 L i).f2 % 256 = (rd_T44 L i).f2 := Int.emod_eq_of_lt (by omega) (by omega)
    have q1 : (i : Int) < (L.length : Int) := by omega
    have q2 : (0 : Int) ≤ i := by omega
    have q3 : acc.length + 2 < 140737488355328 := by omega
    have q4 : acc.length < 140737488355328 := by omega
    have wi : ((i : Int) + 1) = ((i + 1 : Nat) : Int) := rfl
    cases hf : (rd_T44 L i).f1 with
    | true =>
      have ie : evT (rd_T44 L i) = [2 * (rd_T44 L i).f0 + 1, (rd_T44 L i).f2] ++ varL 9 (zigZ (rd_T44 L i).f3) := by unfold evT; rw [if_pos hf]
      refine Ev.step (f := fun k => (word_Var.f k (zigZ (rd_T44 L i).f3)).bind fun t => if (acc ++ [2 * (rd_T44 L i).f0 + 1, (rd_T44 L i).f2]).length + t.length < 140737488355328 then hist_Encode.l0 k ((acc ++ [2 * (rd_T44 L i).f0 + 1, (rd_T44 L i).f2]) ++ t) L (L.length : Int) ((i + 1 : Nat) : Int) else none) (fun k => ?_) ?_
      · simp only [hist_Encode.l0]
        rw [if_pos q1, if_pos q2, if_pos q1, if_pos hf, w1, w2, m1, m3, w, wi, word_Zig_is _ wf.1 wf.2]
        simp only [Option.bind_some]
        rw [if_pos (by simpa using q3)]
      · refine Ev.bind (word_Var_ev _ zb.1 zb.2) ?_
        refine Ev.congr (fun k => ?_) g
        rw [if_pos (by rw [List.length_append]; simp; omega), ie, List.append_assoc]
    | false =>
      have ie : evT (rd_T44 L i) = [2 * (rd_T44 L i).f0] ++ varL 9 (zigZ (rd_T44 L i).f3) := by unfold evT; rw [if_neg (by rw [hf]; simp)]
      refine Ev.step (f := fun k => (word_Var.f k (zigZ (rd_T44 L i).f3)).bind fun t => if (acc ++ [2 * (rd_T44 L i).f0]).length + t.length < 140737488355328 then hist_Encode.l0 k ((acc ++ [2 * (rd_T44 L i).f0]) ++ t) L (L.length : Int) ((i + 1 : Nat) : Int) else none) (fun k => ?_) ?_
      · simp only [hist_Encode.l0]
        rw [if_pos q1, if_pos q2, if_pos q1, if_neg (by rw [hf]; simp), if_pos q4, w1, m2, w, wi, word_Zig_is _ wf.1 wf.2]
        simp only [Option.bind_some]
      · refine Ev.bind (word_Var_ev _ zb.1 zb.2) ?_
        refine Ev.congr (fun k => ?_) g
        rw [if_pos (by rw [List.length_append]; simp; omega), ie, List.append_assoc]
theorem goods (L : List S44) (hw : ∀ x ∈ L, WfE x) (c : (chkZ L).2 = 0) : ∀ x ∈ L, WfE x ∧ ¬ badE x := fun x hx => ⟨hw x hx, z_good L 0 0 _ c x hx⟩
theorem hist_Encode_ev (L : List S44) (hl : L.length ≤ 300) (hw : ∀ x ∈ L, WfE x) : Ev (fun k => hist_Encode.f k L) (encE L) := by
  unfold encE hist_Encode.f
  rw [show hist_Check.f L = some (chkZ L) from rfl]
  simp only [Option.bind_some]
  by_cases c : (chkZ L).2 = 0
  · rw [if_pos c]
    refine Ev.congr (fun k => if_pos c) ?_
    rw [wu64, Int.emod_eq_of_lt (by omega) (by omega)]
    refine Ev.bind (word_Var_ev _ (by omega) (by omega)) ?_
    have vl := varL_len 9 (L.length : Int)
    have g := hist_Encode_l0 L.length L (varL 9 (L.length : Int)) 0 (goods L hw c) rfl (by omega) hl (by omega)
    rw [List.drop_zero] at g
    exact g
  · rw [if_neg c]
    exact Ev.congr (fun k => if_neg c) (Ev.now _)
/-- An event is read. -/
def tailE (c : Int) (ca : Bool) (o : Int) (r : List Int) : S44 × List Int × Int := if (readR 0 r).2.2 = 0 then (⟨c, ca, o, zagZ (readR 0 r).1⟩, r.drop (readR 0 r).2.1.toNat, 0) else (z44, [], (readR 0 r).2.2)
def evR : List Int → S44 × List Int × Int
  | [] => (z44, [], 3)
  | h :: r => if h ≥ 32 then (z44, [], 4) else if h % 2 = 1 then
      (match r with
        | [] => (z44, [], 3)
        | o :: r2 => if o ≥ 16 then (z44, [], 4) else tailE (h / 2) true o r2)
      else tailE (h / 2) false 0 r
def decE : Nat → List Int → List S44 → List S44 × Int
  | 0, b, acc => if 0 < b.length then ([], 6) else if (chkZ acc).2 = 0 then (acc, 0) else ([], (chkZ acc).2)
  | n + 1, b, acc => if (evR b).2.2 = 0 then decE n (evR b).2.1 (acc ++ [(evR b).1]) else ([], (evR b).2.2)
def decB (b : List Int) : List S44 × Int :=
  if (readR 0 b).2.2 = 0 then (if 128 < (readR 0 b).1 then ([], 5) else decE (readR 0 b).1.toNat (b.drop (readR 0 b).2.1.toNat) []) else ([], (readR 0 b).2.2)
theorem tailE_ok (c : Int) (ca : Bool) (o : Int) (r : List Int) (h : (readR 0 r).2.2 = 0) : tailE c ca o r = (⟨c, ca, o, zagZ (readR 0 r).1⟩, r.drop (readR 0 r).2.1.toNat, 0) := by unfold tailE; rw [if_pos h]
theorem tailE_no (c : Int) (ca : Bool) (o : Int) (r : List Int) (h : ¬ (readR 0 r).2.2 = 0) : tailE c ca o r = (z44, [], (readR 0 r).2.2) := by unfold tailE; rw [if_neg h]
theorem event_j0 (r : List Int) (c : Int) (ca : Bool) (o : Int) (hr : ∀ x ∈ r, 0 ≤ x ∧ x < 256) (rl : r.length ≤ 140737488351232) :
    Ev (fun k => hist_event.j0 k r c ca o 0) ((tailE c ca o r).1.f0, (tailE c ca o r).1.f1, (tailE c ca o r).1.f2, (tailE c ca o r).1.f3, (tailE c ca o r).2.1, (tailE c ca o r).2.2) := by
  have q := readR_bd r 0 (by omega) hr
  refine Ev.step (f := fun k => (word_ReadVar.f k r).bind fun bt232 => (if bt232.2.2 = 0 then ((word_Zag.f bt232.1).bind fun t235 => (if 0 ≤ bt232.2.1 then (if bt232.2.1 ≤ (r.length : Int) then (some (c, ca, o, t235, (r.drop (bt232.2.1 : Int).toNat), 0)) else (none)) else (none))) else (some (0, false, 0, 0, ([] : List Int), bt232.2.2)))) (fun k => by simp only [hist_event.j0]) ?_
  refine Ev.bind (word_ReadVar_ev r hr rl) ?_
  by_cases c3 : (readR 0 r).2.2 = 0
  · rw [tailE_ok c ca o r c3]
    refine Ev.congr (fun k => if_pos c3) ?_
    rw [word_Zag_is _ q.1 (by simpa using q.2.1)]
    simp only [Option.bind_some]
    exact Ev.congr (fun k => by rw [if_pos q.2.2.1, if_pos q.2.2.2.1]) (Ev.now _)
  · rw [tailE_no c ca o r c3]; exact Ev.congr (fun k => if_neg c3) (Ev.now _)
theorem evR_big (h : Int) (r : List Int) (c : h ≥ 32) : evR (h :: r) = (z44, [], 4) := by simp only [evR]; rw [if_pos c]
theorem evR_nil (h : Int) (c : ¬ h ≥ 32) (c1 : h % 2 = 1) : evR [h] = (z44, [], 3) := by simp only [evR]; rw [if_neg c, if_pos c1]
theorem evR_op (h o : Int) (r : List Int) (c : ¬ h ≥ 32) (c1 : h % 2 = 1) (c2 : o ≥ 16) : evR (h :: o :: r) = (z44, [], 4) := by simp only [evR]; rw [if_neg c, if_pos c1, if_pos c2]
theorem evR_call (h o : Int) (r : List Int) (c : ¬ h ≥ 32) (c1 : h % 2 = 1) (c2 : ¬ o ≥ 16) : evR (h :: o :: r) = tailE (h / 2) true o r := by simp only [evR]; rw [if_neg c, if_pos c1, if_neg c2]
theorem evR_ans (h : Int) (r : List Int) (c : ¬ h ≥ 32) (c1 : ¬ h % 2 = 1) : evR (h :: r) = tailE (h / 2) false 0 r := by simp only [evR]; rw [if_neg c, if_neg c1]
theorem hist_event_ev (b : List Int) (hb : ∀ c ∈ b, 0 ≤ c ∧ c < 256) (hl : b.length ≤ 140737488351232) :
    Ev (fun k => hist_event.f k b) ((evR b).1.f0, (evR b).1.f1, (evR b).1.f2, (evR b).1.f3, (evR b).2.1, (evR b).2.2) := by
  cases b with
  | nil => exact Ev.congr (fun k => by unfold hist_event.f; rw [if_pos (by simp)]; rfl) (Ev.now _)
  | cons h r =>
    have hc := hb h (by simp)
    have hr : ∀ x ∈ r, 0 ≤ x ∧ x < 256 := fun x hx => hb x (by simp [hx])
    rw [List.length_cons] at hl
    have r0 : rd (h :: r) 0 = h := rfl
    have tm : Int.tmod h 2 = h % 2 := Int.tmod_eq_emod_of_nonneg hc.1
    have td : Int.tdiv h 2 = h / 2 := Int.tdiv_eq_ediv_of_nonneg hc.1
    have m : (h / 2) % 256 = h / 2 := Int.emod_eq_of_lt (by omega) (by omega)
    have start : ∀ res, Ev (fun k => if h ≥ 32 then (some (0, false, 0, 0, ([] : List Int), 4)) else (if h % 2 = 1 then (if (r.length : Int) = 0 then (some (0, false, 0, 0, ([] : List Int), 3)) else (if 0 < (r.length : Int) then (if (rd r 0) ≥ 16 then (some (0, false, 0, 0, ([] : List Int), 4)) else (if 1 ≤ (r.length : Int) then (hist_event.j0 k (r.drop 1) (h / 2) (h % 2 == 1) (wrap64 (rd r 0)) 0) else (none))) else (none))) else (hist_event.j0 k r (h / 2) (h % 2 == 1) 0 0))) res → Ev (fun k => hist_event.f k (h :: r)) res := by
      intro res g
      refine Ev.congr (fun k => ?_) g
      unfold hist_event.f
      rw [if_neg (by rw [List.length_cons]; omega), if_pos (by rw [List.length_cons]; omega), r0, tm, td, m]
      by_cases c : h ≥ 32
      · rw [if_pos c, if_pos c]
      · rw [if_neg c, if_neg c, if_pos (by rw [List.length_cons]; omega)]
        rfl
    refine start _ ?_
    clear start
    by_cases c : h ≥ 32
    · rw [evR_big h r c]; exact Ev.congr (fun k => if_pos c) (Ev.now _)
    · refine Ev.congr (fun k => if_neg c) ?_
      by_cases c1 : h % 2 = 1
      · refine Ev.congr (fun k => if_pos c1) ?_
        cases r with
        | nil => rw [evR_nil h c c1]; exact Ev.congr (fun k => if_pos (by simp)) (Ev.now _)
        | cons o r2 =>
          have ho := hr o (by simp)
          rw [List.length_cons] at hl
          refine Ev.congr (fun k => if_neg (by rw [List.length_cons]; omega)) ?_
          refine Ev.congr (fun k => if_pos (by rw [List.length_cons]; omega)) ?_
          have o0 : rd (o :: r2) 0 = o := rfl
          rw [o0]
          by_cases c2 : o ≥ 16
          · rw [evR_op h o r2 c c1 c2]; exact Ev.congr (fun k => if_pos c2) (Ev.now _)
          · rw [evR_call h o r2 c c1 c2]
            refine Ev.congr (fun k => if_neg c2) ?_
            refine Ev.congr (fun k => if_pos (by rw [List.length_cons]; omega)) ?_
            rw [w64 (by omega) (by omega), show (h % 2 == 1) = true from by simpa using c1, List.drop_succ_cons, List.drop_zero]
            exact event_j0 r2 (h / 2) true o (fun x hx => hr x (by simp [hx])) (by omega)
      · rw [evR_ans h r c c1]
        refine Ev.congr (fun k => if_neg c1) ?_
        rw [show (h % 2 == 1) = false from by simpa using c1]
        exact event_j0 r (h / 2) false 0 hr (by omega)
theorem tailE_drop (c : Int) (ca : Bool) (o : Int) (r : List Int) : (∀ x ∈ (tailE c ca o r).2.1, x ∈ r) ∧ (tailE c ca o r).2.1.length ≤ r.length := by
  unfold tailE
  split
  · exact ⟨fun x hx => List.mem_of_mem_drop hx, by show (r.drop _).length ≤ _; rw [List.length_drop]; omega⟩
  · simp
theorem evR_both (b : List Int) : (∀ x ∈ (evR b).2.1, x ∈ b) ∧ (evR b).2.1.length ≤ b.length := by
  cases b with
  | nil => simp [evR]
  | cons h r =>
    by_cases c : h ≥ 32
    · rw [evR_big h r c]; simp
    · by_cases c1 : h % 2 = 1
      · cases r with
        | nil => rw [evR_nil h c c1]; simp
        | cons o r2 =>
          by_cases c2 : o ≥ 16
          · rw [evR_op h o r2 c c1 c2]; simp
          · rw [evR_call h o r2 c c1 c2]
            have t := tailE_drop (h / 2) true o r2
            exact ⟨fun x hx => List.mem_cons_of_mem _ (List.mem_cons_of_mem _ (t.1 x hx)), by have := t.2; rw [List.length_cons, List.length_cons]; omega⟩
      · rw [evR_ans h r c c1]
        have t := tailE_drop (h / 2) false 0 r
        exact ⟨fun x hx => List.mem_cons_of_mem _ (t.1 x hx), by have := t.2; rw [List.length_cons]; omega⟩
theorem evR_drop (b : List Int) : ∀ x ∈ (evR b).2.1, x ∈ b := (evR_both b).1
theorem evR_len (b : List Int) : (evR b).2.1.length ≤ b.length := (evR_both b).2
theorem hist_Decode_l0 (d : Nat) : ∀ (b : List Int) (acc : List S44) (n i : Nat), (∀ c ∈ b, 0 ≤ c ∧ c < 256) → n - i = d → i ≤ n → n ≤ 200 → acc.length = i → b.length ≤ 140737488351232 →
    Ev (fun k => hist_Decode.l0 k b acc n i) (decE d b acc) := by
  induction d with
  | zero =>
    intro b acc n i hb hd hi hn ha hl
    unfold decE
    by_cases c : 0 < b.length
    · rw [if_pos c]
      refine Ev.step (f := fun _ => some ([], 6)) (fun k => ?_) (Ev.now _)
      simp only [hist_Decode.l0]; rw [if_neg (by omega), if_pos (by omega)]
    · rw [if_neg c]
      refine Ev.step (f := fun k => if (chkZ acc).2 = 0 then (some (acc, 0)) else (some (([] : List S44), (chkZ acc).2))) (fun k => ?_) ?_
      · simp only [hist_Decode.l0]; rw [if_neg (by omega), if_neg (by omega), show hist_Check.f acc = some (chkZ acc) from rfl]; simp only [Option.bind_some]
      · by_cases e : (chkZ acc).2 = 0
        · rw [if_pos e, if_pos e]; exact Ev.now _
        · rw [if_neg e, if_neg e]; exact Ev.now _
  | succ d ih =>
    intro b acc n i hb hd hi hn ha hl
    have wi : IntKind.u64.wrap ((i : Int) + 1) = ((i + 1 : Nat) : Int) := by rw [wu64]; omega
    unfold decE
    refine Ev.step (f := fun k => (hist_event.f k b).bind fun bt249 => (if bt249.2.2.2.2.2 = 0 then (if acc.length < 4398046511104 then (hist_Decode.l0 k bt249.2.2.2.2.1 (acc ++ [(⟨bt249.1, bt249.2.1, bt249.2.2.1, bt249.2.2.2.1⟩ : S44)]) n ((i + 1 : Nat) : Int)) else (none)) else (some (([] : List S44), bt249.2.2.2.2.2)))) (fun k => ?_) ?_
    · simp only [hist_Decode.l0]; rw [if_pos (by omega), wi]
    · refine Ev.bind (hist_event_ev b hb hl) ?_
      have ln := evR_len b
      by_cases c3 : (evR b).2.2 = 0
      · rw [if_pos c3]
        refine Ev.congr (fun k => by rw [if_pos c3, if_pos (by omega)]) ?_
        exact ih (evR b).2.1 (acc ++ [(evR b).1]) n (i + 1) (fun x hx => hb x (evR_drop b x hx)) (by omega) (by omega) hn (by simp [ha]) (by omega)
      · rw [if_neg c3]; exact Ev.congr (fun k => if_neg c3) (Ev.now _)
theorem hist_Decode_ev (b : List Int) (hb : ∀ c ∈ b, 0 ≤ c ∧ c < 256) (hl : b.length ≤ 140737488351232) : Ev (fun k => hist_Decode.f k b) (decB b) := by
  unfold decB
  have q := readR_bd b 0 (by omega) hb
  refine Ev.bind (word_ReadVar_ev b hb hl) ?_
  by_cases c : (readR 0 b).2.2 = 0
  · rw [if_pos c]
    refine Ev.congr (fun k => if_pos c) ?_
    by_cases c1 : 128 < (readR 0 b).1
    · rw [if_pos c1]; exact Ev.congr (fun k => if_pos c1) (Ev.now _)
    · rw [if_neg c1]
      refine Ev.congr (fun k => by rw [if_neg (by omega), if_pos q.2.2.1, if_pos q.2.2.2.1]) ?_
      obtain ⟨n, hn⟩ := Int.eq_ofNat_of_zero_le q.1
      rw [hn, Int.toNat_natCast]
      exact hist_Decode_l0 n (b.drop (readR 0 b).2.1.toNat) [] n 0 (fun x hx => hb x (List.mem_of_mem_drop hx)) (by omega) (by omega) (by omega) rfl (by rw [List.length_drop]; omega)
  · rw [if_neg c]; exact Ev.congr (fun k => if_neg c) (Ev.now _)
theorem r14_Text_l0 (d : Nat) : ∀ (L : List S44) (acc : List Int) (i : Nat), (∀ x ∈ L, WfE x ∧ ¬ badE x) → L.length - i = d → i ≤ L.length → L.length ≤ 300 → acc.length ≤ 10 + 12 * i →
    Ev (fun k => inquestref14_Text.l0 k L acc i) (acc ++ (L.drop i).flatMap evT) := by
  induction d with
  | zero =>
    intro L acc i hw hd hi hl ha
    refine Ev.step (f := fun _ => some acc) (fun k => ?_) (by rw [List.drop_of_length_le (by omega)]; simpa using Ev.now _)
    simp only [inquestref14_Text.l0]; rw [if_neg (by omega)]
  | succ d ih =>
    intro L acc i hw hd hi hl ha
    have hlt : i < L.length := by omega
    rw [drop_cons44 L i hlt, List.flatMap_cons, ← List.append_assoc]
    obtain ⟨wf, nb⟩ := hw _ (rdE_mem L i hlt)
    have il := evT_len (rd_T44 L i)
    have g := ih L (acc ++ evT (rd_T44 L i)) (i + 1) hw (by omega) (by omega) hl (by rw [List.length_append]; omega)
    unfold badE at nb
    have w := w64 (i := (i : Int) + 1) (by omega) (by omega)
    have zb := zig_lo _ wf.1 wf.2
    have vl := varL_len 9 (zigZ (rd_T44 L i).f3)
    have w1 := w64 (i := 2 * (rd_T44 L i).f0) (by omega) (by omega)
    have m2 : (2 * (rd_T44 L i).f0) % 256 = 2 * (rd_T44 L i).f0 := Int.emod_eq_of_lt (by omega) (by omega)
    have m1 : (2 * (rd_T44 L i).f0 + 1) % 256 = 2 * (rd_T44 L i).f0 + 1 := Int.emod_eq_of_lt (by omega) (by omega)
    have m3 : (rd_T44 L i).f2 % 256 = (rd_T44 L i).f2 := Int.emod_eq_of_lt (by omega) (by omega)
    have q1 : (i : Int) < (L.length : Int) := by omega
    have q2 : (0 : Int) ≤ i := by omega
    have q3 : acc.length + 2 < 140737488355328 := by omega
    have q4 : acc.length < 140737488355328 := by omega
    have wi : ((i : Int) + 1) = ((i + 1 : Nat) : Int) := rfl
    cases hf : (rd_T44 L i).f1 with
    | true =>
      have ie : evT (rd_T44 L i) = [2 * (rd_T44 L i).f0 + 1, (rd_T44 L i).f2] ++ varL 9 (zigZ (rd_T44 L i).f3) := by unfold evT; rw [if_pos hf]
      refine Ev.step (f := fun k => (inquestref01_Var.f k (zigZ (rd_T44 L i).f3)).bind fun t => if (acc ++ [2 * (rd_T44 L i).f0 + 1, (rd_T44 L i).f2]).length + t.length < 140737488355328 then inquestref14_Text.l0 k L ((acc ++ [2 * (rd_T44 L i).f0 + 1, (rd_T44 L i).f2]) ++ t) ((i + 1 : Nat) : Int) else none) (fun k => ?_) ?_
      · simp only [inquestref14_Text.l0]
        rw [if_pos q1, if_pos q2, if_pos hf, w1, m2, m1, m3, w, wi, r01_Zig_is _ wf.1 wf.2]
        simp only [Option.bind_some]
        rw [if_pos (by simpa using q3)]
      · refine Ev.bind (r01_Var_ev _ zb.1 zb.2) ?_
        refine Ev.congr (fun k => ?_) g
        rw [if_pos (by rw [List.length_append]; simp; omega), ie, List.append_assoc]
    | false =>
      have ie : evT (rd_T44 L i) = [2 * (rd_T44 L i).f0] ++ varL 9 (zigZ (rd_T44 L i).f3) := by unfold evT; rw [if_neg (by rw [hf]; simp)]
      refine Ev.step (f := fun k => (inquestref01_Var.f k (zigZ (rd_T44 L i).f3)).bind fun t => if (acc ++ [2 * (rd_T44 L i).f0]).length + t.length < 140737488355328 then inquestref14_Text.l0 k L ((acc ++ [2 * (rd_T44 L i).f0]) ++ t) ((i + 1 : Nat) : Int) else none) (fun k => ?_) ?_
      · simp only [inquestref14_Text.l0]
        rw [if_pos q1, if_pos q2, if_neg (by rw [hf]; simp), if_pos q4, w1, m2, w, wi, r01_Zig_is _ wf.1 wf.2]
        simp only [Option.bind_some]
      · refine Ev.bind (r01_Var_ev _ zb.1 zb.2) ?_
        refine Ev.congr (fun k => ?_) g
        rw [if_pos (by rw [List.length_append]; simp; omega), ie, List.append_assoc]
theorem r14_Encode_ev (L : List S44) (hl : L.length ≤ 300) (hw : ∀ x ∈ L, WfE x) : Ev (fun k => inquestref14_Encode.f k L) (encE L) := by
  unfold encE inquestref14_Encode.f
  rw [r14_Check_is L (by omega)]
  simp only [Option.bind_some]
  by_cases c : (chkZ L).2 = 0
  · rw [if_pos c]
    refine Ev.congr (fun k => if_pos c) ?_
    have vl := varL_len 9 (L.length : Int)
    have g := r14_Text_l0 L.length L (varL 9 (L.length : Int)) 0 (goods L hw c) rfl (by omega) hl (by omega)
    rw [List.drop_zero] at g
    have t : Ev (fun k => inquestref14_Text.f k L) (textE L) := by
      unfold inquestref14_Text.f
      rw [wu64, Int.emod_eq_of_lt (by omega) (by omega)]
      exact Ev.bind (r01_Var_ev _ (by omega) (by omega)) g
    exact Ev.bind t (Ev.now _)
  · rw [if_neg c]
    exact Ev.congr (fun k => if_neg c) (Ev.now _)
theorem r14_unfold (u : Int) (h0 : 0 ≤ u) (h1 : u < 18446744073709551616) : inquestref14_unfold.f u = some (zagZ u) := by
  unfold inquestref14_unfold.f zagZ
  rw [Int.tmod_eq_emod_of_nonneg h0, Int.tdiv_eq_ediv_of_nonneg h0, wu64, Int.emod_eq_of_lt (a := u / 2) (by omega) (by omega), w64 (i := u / 2) (by omega) (by omega), w64 (i := -(u / 2)) (by omega) (by omega), w64 (i := -(u / 2) - 1) (by omega) (by omega)]
  split <;> rfl
theorem r14_j1 (d : Nat) (b : List Int) (hb : ∀ c ∈ b, 0 ≤ c ∧ c < 256) (hl : b.length ≤ 140737488351232) (acc : List S44) (n i : Nat) (hn : i < 200) (ha : acc.length = i)
    (ih : ∀ (at_ : Nat) (a2 : List S44), at_ ≤ b.length → a2.length = i + 1 → Ev (fun k => inquestref14_Decode.l0 k b n at_ a2 ((i + 1 : Nat) : Int)) (decE d (b.drop at_) a2)) (p : Nat) (hp : p ≤ b.length) (c : Int) (ca : Bool) (o : Int) :
    Ev (fun k => inquestref14_Decode.j1 k b n p acc i c ca o 0) (if (tailE c ca o (b.drop p)).2.2 = 0 then decE d (tailE c ca o (b.drop p)).2.1 (acc ++ [(tailE c ca o (b.drop p)).1]) else ([], (tailE c ca o (b.drop p)).2.2)) := by
  have hr : ∀ x ∈ b.drop p, 0 ≤ x ∧ x < 256 := fun x hx => hb x (List.mem_of_mem_drop hx)
  have rl : (b.drop p).length ≤ 140737488351232 := by rw [List.length_drop]; omega
  have q := readR_bd (b.drop p) 0 (by omega) hr
  have q4 := q.2.2.2.1
  rw [List.length_drop] at q4
  have q3 := q.2.2.1
  have wi : IntKind.u64.wrap ((i : Int) + 1) = ((i + 1 : Nat) : Int) := by rw [wu64]; omega
  refine Ev.step (f := fun k => (inquestref01_ReadVar.f k (b.drop p)).bind fun bt273 => (if bt273.2.2 = 0 then ((inquestref14_unfold.f bt273.1).bind fun t276 => (if acc.length < 4398046511104 then (inquestref14_Decode.l0 k b n (wrap64 ((p : Int) + bt273.2.1)) (acc ++ [(⟨c, ca, o, t276⟩ : S44)]) ((i + 1 : Nat) : Int)) else (none))) else (some (([] : List S44), bt273.2.2)))) (fun k => ?_) ?_
  · simp only [inquestref14_Decode.j1]; rw [if_pos (by omega), if_pos (by omega), wi, Int.toNat_natCast]
  · refine Ev.bind (r01_ReadVar_ev (b.drop p) hr rl) ?_
    by_cases c3 : (readR 0 (b.drop p)).2.2 = 0
    · rw [tailE_ok _ _ _ _ c3, if_pos rfl]
      refine Ev.congr (fun k => if_pos c3) ?_
      rw [r14_unfold _ q.1 (by simpa using q.2.1)]
      simp only [Option.bind_some]
      have g := ih (p + (readR 0 (b.drop p)).2.1.toNat) (acc ++ [⟨c, ca, o, zagZ (readR 0 (b.drop p)).1⟩]) (by omega) (by simp [ha])
      show Ev _ (decE d ((b.drop p).drop _) _)
      rw [List.drop_drop]
      refine Ev.congr (fun k => ?_) g
      rw [if_pos (by omega), w64 (by omega) (by omega)]
      congr 1
      omega
    · rw [tailE_no _ _ _ _ c3, if_neg c3]; exact Ev.congr (fun k => if_neg c3) (Ev.now _)
theorem r14_Decode_l0 (d : Nat) : ∀ (b : List Int) (at_ : Nat) (acc : List S44) (n i : Nat), (∀ c ∈ b, 0 ≤ c ∧ c < 256) → n - i = d → i ≤ n → n ≤ 200 → acc.length = i → at_ ≤ b.length → b.length ≤ 140737488351232 →
    Ev (fun k => inquestref14_Decode.l0 k b n at_ acc i) (decE d (b.drop at_) acc) := by
  induction d with
  | zero =>
    intro b at_ acc n i hb hd hi hn ha hp hl
    unfold decE
    rw [List.length_drop]
    by_cases c : at_ < b.length
    · rw [if_pos (by omega)]
      refine Ev.step (f := fun _ => some ([], 6)) (fun k => ?_) (Ev.now _)
      simp only [inquestref14_Decode.l0]; rw [if_neg (by omega), if_pos (by omega)]
    · rw [if_neg (by omega)]
      refine Ev.step (f := fun _ => if (chkZ acc).2 = 0 then some (acc, 0) else some (([] : List S44), (chkZ acc).2)) (fun k => ?_) ?_
      · simp only [inquestref14_Decode.l0]; rw [if_neg (by omega), if_neg (by omega), r14_Check_is acc (by omega)]; simp only [Option.bind_some]
      · by_cases e : (chkZ acc).2 = 0
        · rw [if_pos e, if_pos e]; exact Ev.now _
        · rw [if_neg e, if_neg e]; exact Ev.now _
  | succ d ih =>
    intro b at_ acc n i hb hd hi hn ha hp hl
    have ih' : ∀ (a2 : Nat) (acc2 : List S44), a2 ≤ b.length → acc2.length = i + 1 → Ev (fun k => inquestref14_Decode.l0 k b n a2 acc2 ((i + 1 : Nat) : Int)) (decE d (b.drop a2) acc2) := fun a2 acc2 h1 h2 => ih b a2 acc2 n (i + 1) hb (by omega) (by omega) hn h2 h1 hl
    have hX : (i : Int) < n := by omega
    by_cases he : at_ = b.length
    · rw [List.drop_of_length_le (by omega)]
      unfold decE
      rw [show evR [] = (z44, [], 3) from rfl, if_neg (by simp)]
      refine Ev.step (f := fun _ => some ([], 3)) (fun k => ?_) (Ev.now _)
      simp only [inquestref14_Decode.l0]; rw [if_pos hX, if_pos (by omega)]
    · have hlt : at_ < b.length := by omega
      have e : b.drop at_ = rd b at_ :: b.drop (at_ + 1) := by
        rw [List.drop_eq_getElem_cons hlt]; congr 1; simp [rd, List.getElem?_eq_getElem hlt]
      have hc : 0 ≤ rd b at_ ∧ rd b at_ < 256 := by
        have : rd b at_ = b[at_] := by simp [rd, List.getElem?_eq_getElem hlt]
        rw [this]; exact hb _ (List.getElem_mem hlt)
      have j1 := r14_j1 d b hb hl acc n i (by omega) ha ih'
      have hY : ¬ (at_ : Int) ≥ b.length := by omega
      have hZ : (0 : Int) ≤ at_ := by omega
      have hW : (at_ : Int) < b.length := by omega
      have hV : (0 : Int) ≤ ((at_ + 1 : Nat) : Int) := by omega
      have w1 : wrap64 ((at_ : Int) + 1) = ((at_ + 1 : Nat) : Int) := by rw [w64 (by omega) (by omega)]; rfl
      have w2 : wrap64 (((at_ + 1 : Nat) : Int) + 1) = ((at_ + 2 : Nat) : Int) := by rw [w64 (by omega) (by omega)]; rfl
      have wc : wrap64 (rd b at_) = rd b at_ := w64 (by omega) (by omega)
      have tm : Int.tmod (rd b at_) 2 = rd b at_ % 2 := Int.tmod_eq_emod_of_nonneg hc.1
      have td : Int.tdiv (rd b at_) 2 = rd b at_ / 2 := Int.tdiv_eq_ediv_of_nonneg hc.1
      have wd : wrap64 (rd b at_ / 2) = rd b at_ / 2 := w64 (by omega) (by omega)
      rw [e]
      unfold decE
      by_cases c0 : rd b at_ ≥ 32
      · rw [evR_big _ _ c0, if_neg (by simp)]
        refine Ev.step (f := fun _ => some ([], 4)) (fun k => ?_) (Ev.now _)
        simp only [inquestref14_Decode.l0]; rw [if_pos hX, if_neg hY, if_pos hZ, if_pos hW, if_pos (show rd b at_ > 31 from by clear w1 w2 wc wd; omega)]
      · have c0' : ¬ rd b at_ > 31 := by clear w1 w2 wc wd; omega
        by_cases c1 : rd b at_ % 2 = 1
        · by_cases he2 : at_ + 1 = b.length
          · rw [List.drop_of_length_le (by omega), evR_nil _ c0 c1, if_neg (by simp)]
            refine Ev.step (f := fun _ => some ([], 3)) (fun k => ?_) (Ev.now _)
            have hU : ((at_ + 1 : Nat) : Int) ≥ b.length := by clear w1 w2 wc wd; omega
            simp only [inquestref14_Decode.l0]; rw [if_pos hX, if_neg hY, if_pos hZ, if_pos hW, if_neg c0', tm, if_pos c1, w1, if_pos hU]
          · have hlt2 : at_ + 1 < b.length := by clear w1 w2 wc wd; omega
            have e2 : b.drop (at_ + 1) = rd b ((at_ + 1 : Nat) : Int) :: b.drop (at_ + 2) := by
              rw [List.drop_eq_getElem_cons hlt2]; congr 1; simp [rd, List.getElem?_eq_getElem hlt2]
            have ho : 0 ≤ rd b ((at_ + 1 : Nat) : Int) ∧ rd b ((at_ + 1 : Nat) : Int) < 256 := by
              have : rd b ((at_ + 1 : Nat) : Int) = b[at_ + 1] := by simp [rd, List.getElem?_eq_getElem hlt2]
              rw [this]; exact hb _ (List.getElem_mem hlt2)
            have wo : wrap64 (rd b ((at_ + 1 : Nat) : Int)) = rd b ((at_ + 1 : Nat) : Int) := by clear w1 w2 wc wd; exact w64 (by omega) (by omega)
            have hU : ¬ ((at_ + 1 : Nat) : Int) ≥ b.length := by clear w1 w2 wc wd wo; omega
            have hU2 : ((at_ + 1 : Nat) : Int) < b.length := by clear w1 w2 wc wd wo; omega
            rw [e2]
            by_cases c2 : rd b ((at_ + 1 : Nat) : Int) ≥ 16
            · rw [evR_op _ _ _ c0 c1 c2, if_neg (by simp)]
              have c2' : rd b ((at_ + 1 : Nat) : Int) > 15 := by clear w1 w2 wc wd wo; omega
              refine Ev.step (f := fun _ => some ([], 4)) (fun k => ?_) (Ev.now _)
              simp only [inquestref14_Decode.l0]; rw [if_pos hX, if_neg hY, if_pos hZ, if_pos hW, if_neg c0', tm, if_pos c1, w1, if_neg hU, if_pos hV, if_pos hU2, if_pos c2']
            · rw [evR_call _ _ _ c0 c1 c2]
              have c2' : ¬ rd b ((at_ + 1 : Nat) : Int) > 15 := by clear w1 w2 wc wd wo; omega
              refine Ev.step (fun k => ?_) (j1 (at_ + 2) (by clear w1 w2 wc wd wo; omega) (rd b at_ / 2) true (rd b ((at_ + 1 : Nat) : Int)))
              simp only [inquestref14_Decode.l0]; rw [if_pos hX, if_neg hY, if_pos hZ, if_pos hW, if_neg c0', tm, if_pos c1, w1, if_neg hU, if_pos hV, if_pos hU2, if_neg c2', wc, td, wd, w2, wo, show (rd b at_ % 2 == 1) = true from by simpa using c1]
        · rw [evR_ans _ _ c0 c1]
          refine Ev.step (fun k => ?_) (j1 (at_ + 1) (by clear w1 w2 wc wd; omega) (rd b at_ / 2) false 0)
          simp only [inquestref14_Decode.l0]; rw [if_pos hX, if_neg hY, if_pos hZ, if_pos hW, if_neg c0', tm, if_neg c1, w1, wc, td, wd, show (rd b at_ % 2 == 1) = false from by simpa using c1]
theorem r14_Decode_ev (b : List Int) (hb : ∀ c ∈ b, 0 ≤ c ∧ c < 256) (hl : b.length ≤ 140737488351232) : Ev (fun k => inquestref14_Decode.f k b) (decB b) := by
  unfold decB
  have q := readR_bd b 0 (by omega) hb
  refine Ev.bind (r01_ReadVar_ev b hb hl) ?_
  by_cases c : (readR 0 b).2.2 = 0
  · rw [if_pos c]
    refine Ev.congr (fun k => if_pos c) ?_
    by_cases c1 : 128 < (readR 0 b).1
    · rw [if_pos c1]; exact Ev.congr (fun k => if_pos c1) (Ev.now _)
    · rw [if_neg c1]
      refine Ev.congr (fun k => if_neg (by omega)) ?_
      obtain ⟨n, hn⟩ := Int.eq_ofNat_of_zero_le q.1
      obtain ⟨m, hm⟩ := Int.eq_ofNat_of_zero_le q.2.2.1
      have q4 := q.2.2.2.1
      rw [hn, hm, Int.toNat_natCast, Int.toNat_natCast]
      exact r14_Decode_l0 n b m [] n 0 hb (by omega) (by omega) (by omega) rfl (by omega) hl
  · rw [if_neg c]; exact Ev.congr (fun k => if_neg c) (Ev.now _)
theorem encE_short (L : List S44) (hl : L.length ≤ 300) : (encE L).1.length ≤ 100000 := by
  unfold encE
  split
  · show (textE L).length ≤ 100000
    unfold textE
    have := flatE_len L
    have := (varL_len 9 (L.length : Int)).2
    rw [List.length_append]; omega
  · simp
theorem decE_short (n : Nat) : ∀ (b : List Int) (acc : List S44), (decE n b acc).1.length ≤ acc.length + n := by
  induction n with
  | zero =>
    intro b acc
    unfold decE
    split
    · simp
    · split
      · simp
      · simp
  | succ n ih =>
    intro b acc
    unfold decE
    split
    · have := ih (evR b).2.1 (acc ++ [(evR b).1]); rw [List.length_append, List.length_singleton] at this; omega
    · simp
theorem decB_short (b : List Int) : (decB b).1.length ≤ 100000 := by
  unfold decB
  split
  · split
    · simp
    · have := decE_short (readR 0 b).1.toNat (b.drop (readR 0 b).2.1.toNat) []
      rw [List.length_nil] at this; omega
  · simp
theorem HistTexts : inquestlaw14_HistTexts.Pure := by
  intro l b hl hw hb _ hwb
  refine Ev.rounds ?_
  unfold inquestlaw14_HistTexts.f
  have f1 : inquestref14_Few.f l 200 = some (l.take 200) := few14 l 200 (by omega) hl
  rw [f1, show inquestref01_Cut.f b 2000 = some (b.take 2000) from cut01 b 2000]
  simp only [Option.bind_some]
  have l200 : (l.take 200).length ≤ 200 := by rw [List.length_take]; omega
  have wL : ∀ x ∈ l.take 200, WfE x := fun x hx => wf_i64 (hw x (List.mem_of_mem_take hx)).2.2
  have b20 : (b.take 2000).length ≤ 2000 := by rw [List.length_take]; omega
  have wB : ∀ c ∈ b.take 2000, 0 ≤ c ∧ c < 256 := fun x hx => wf_u8 (hwb x (List.mem_of_mem_take hx))
  generalize l.take 200 = L at l200 wL
  generalize b.take 2000 = B at b20 wB
  have cp : inquestref01_Copy.f B = some B := by unfold inquestref01_Copy.f; rw [if_pos (by simp; omega)]; rfl
  rw [cp]
  simp only [Option.bind_some]
  refine Ev.bind (hist_Encode_ev L (by omega) wL) ?_
  refine Ev.bind (r14_Encode_ev L (by omega) wL) ?_
  refine Ev.bind (hist_Decode_ev B wB (by omega)) ?_
  refine Ev.bind (r14_Decode_ev B wB (by omega)) ?_
  have e1 := encE_short L (by omega)
  have e2 := decB_short B
  refine Ev.bind (same01_t _ _ (by omega) rfl) ?_
  simp only [if_true]
  refine Ev.bind (same14_t _ (by omega)) ?_
  simp only [if_true]
  refine Ev.bind (same01_t _ _ (by omega) rfl) ?_
  simp only [if_true]
  rw [lives14]
  exact Ev.now _

end Go.Proofs.Ytofhghpahmeolaa.Pure
