/- The law WordVars answers true at every input: short numbers are written and read as the document says. No condition. The printed texts of WordGets, WordVars, WordOne, WordBack: print.sh with HANDBACK=share in its environment. -/
import Derived.Test.YtidplimfeelonaaPWordVarsx2
namespace Go.Proofs.Ytidplimfeelonaa.Pure
open Go.RowKit Go.Proofs.Ytidplimfeelonaa.PWordVars Go.Proofs.YtidplimfeelonaaW.PrintWords Go.Proofs.YtidplimfeelonaaW.PrintLast Go.Proofs.YtidplimfeelonaaW.PrintMore
set_option linter.unusedVariables false
set_option linter.unusedSimpArgs false
theorem w64 {i : Int} (h : -9223372036854775808 ≤ i) (h' : i ≤ 9223372036854775807) : wrap64 i = i := by unfold wrap64; omega
theorem wf_u64 {a : Int} (h : (Lit.int .u64 a).wf = true) : 0 ≤ a ∧ a < 18446744073709551616 := by
  simp [Lit.wf, IntKind.min, IntKind.max, IntKind.signed, IntKind.bits] at h; omega
theorem wf_i64 {a : Int} (h : (Lit.int .i64 a).wf = true) : -9223372036854775808 ≤ a ∧ a ≤ 9223372036854775807 := by
  simp [Lit.wf, IntKind.min, IntKind.max, IntKind.signed, IntKind.bits] at h; omega
theorem wf_u32 {a : Int} (h : (Lit.int .u32 a).wf = true) : 0 ≤ a ∧ a < 4294967296 := by
  simp [Lit.wf, IntKind.min, IntKind.max, IntKind.signed, IntKind.bits] at h; omega
theorem wu64 (n : Int) : IntKind.u64.wrap n = n % 18446744073709551616 := by simp [IntKind.wrap, IntKind.bits, IntKind.signed]
theorem wu32 (n : Int) : IntKind.u32.wrap n = n % 4294967296 := by simp [IntKind.wrap, IntKind.bits, IntKind.signed]
theorem wi64 (n : Int) : IntKind.i64.wrap n = wrap64 n := by
  simp [IntKind.wrap, IntKind.bits, IntKind.signed, wrap64]; split <;> omega
theorem bx_u64 (x y : Int) : Go.bits .xor .u64 x y = IntKind.u64.wrap ((BitVec.ofInt 64 x ^^^ BitVec.ofInt 64 y).toNat : Int) := rfl
theorem bx_i64 (x y : Int) : Go.bits .xor .i64 x y = IntKind.i64.wrap ((BitVec.ofInt 64 x ^^^ BitVec.ofInt 64 y).toNat : Int) := rfl
theorem ba_u64 (x y : Int) : Go.bits .and .u64 x y = IntKind.u64.wrap ((BitVec.ofInt 64 x &&& BitVec.ofInt 64 y).toNat : Int) := rfl
theorem bo_u64 (x y : Int) : Go.bits .or .u64 x y = IntKind.u64.wrap ((BitVec.ofInt 64 x ||| BitVec.ofInt 64 y).toNat : Int) := rfl
theorem bx_u32 (x y : Int) : Go.bits .xor .u32 x y = IntKind.u32.wrap ((BitVec.ofInt 32 x ^^^ BitVec.ofInt 32 y).toNat : Int) := rfl
theorem ba_u32 (x y : Int) : Go.bits .and .u32 x y = IntKind.u32.wrap ((BitVec.ofInt 32 x &&& BitVec.ofInt 32 y).toNat : Int) := rfl
theorem bo_u32 (x y : Int) : Go.bits .or .u32 x y = IntKind.u32.wrap ((BitVec.ofInt 32 x ||| BitVec.ofInt 32 y).toNat : Int) := rfl
theorem bo_u8 (x y : Int) : Go.bits .or .u8 x y = IntKind.u8.wrap ((BitVec.ofInt 8 x ||| BitVec.ofInt 8 y).toNat : Int) := rfl
theorem ba_u8 (x y : Int) : Go.bits .and .u8 x y = IntKind.u8.wrap ((BitVec.ofInt 8 x &&& BitVec.ofInt 8 y).toNat : Int) := rfl
/-- The bytes of a number, the highest first. -/
def putL (x : Int) : Nat → List Int
  | 0 => []
  | n + 1 => putL (x / 256) n ++ [x % 256]
theorem putL_length (x : Int) (n : Nat) : (putL x n).length = n := by
  induction n generalizing x with
  | zero => rfl
  | succ n ih => simp [putL, ih]
theorem word_Put_l0 (m : Nat) : ∀ (x : Int) (xs : List Int), m ≤ xs.length → xs.length ≤ 8 → Ev (fun k => word_Put.l0 k x xs ((m : Int) - 1)) (putL x m ++ xs.drop m) := by
  induction m with
  | zero =>
    intro x xs _ _
    refine ⟨1, fun k hk => ?_⟩
    obtain ⟨k, rfl⟩ : ∃ j, k = j + 1 := ⟨k - 1, by omega⟩
    simp only [word_Put.l0]; rw [if_neg (by omega)]; simp [putL]
  | succ m ih =>
    intro x xs hm hl
    refine Ev.step (f := fun k => word_Put.l0 k (x / 256) (xs.set m (x % 256)) ((m : Int) - 1)) (fun k => ?_) ?_
    · simp only [word_Put.l0]
      rw [if_pos (by omega), if_pos (by omega), if_pos (by omega), w64 (by omega) (by omega)]
      rw [show ((m + 1 : Nat) : Int) - 1 = (m : Int) from by omega, Int.toNat_natCast]
    · have h := ih (x / 256) (xs.set m (x % 256)) (by simp; omega) (by simp; omega)
      have e : putL (x / 256) m ++ (xs.set m (x % 256)).drop m = putL x (m + 1) ++ xs.drop (m + 1) := by
        rw [List.drop_eq_getElem_cons (by simp; omega)]
        simp only [putL, List.getElem_set_self, List.append_assoc, List.cons_append, List.nil_append]
        congr 2
        rw [List.drop_set_of_lt (by omega)]
      rw [e] at h; exact h
/-- What word.Put answers. -/
theorem word_Put_ev (x n : Int) (h1 : 1 ≤ n) (h8 : n ≤ 8) : Ev (fun k => word_Put.f k x n) (putL x n.toNat) := by
  obtain ⟨m, rfl⟩ := Int.eq_ofNat_of_zero_le (show 0 ≤ n by omega)
  refine Ev.step (f := fun k => word_Put.l0 k x (List.replicate m 0) ((m : Int) - 1)) (fun k => ?_) ?_
  · unfold word_Put.f
    rw [if_neg (by omega), show decide ((m : Int) > 8) = false from decide_eq_false (by omega)]
    simp only [word_Put.j0]
    rw [if_neg (by simp), if_pos (by omega), if_pos (by omega), w64 (by omega) (by omega), Int.toNat_natCast]
  · have h := word_Put_l0 m x (List.replicate m 0) (by simp) (by simp; omega)
    simpa using h
theorem word_Put_none (x n : Int) (h : n < 1 ∨ 8 < n) : Ev (fun k => word_Put.f k x n) [] := by
  refine ⟨1, fun k hk => ?_⟩
  obtain ⟨k, rfl⟩ : ∃ j, k = j + 1 := ⟨k - 1, by omega⟩
  show word_Put.f (k + 1) x n = _
  unfold word_Put.f
  by_cases h1 : n < 1
  · rw [if_pos h1]; simp [word_Put.j0]
  · rw [if_neg h1, show decide (n > 8) = true from decide_eq_true (by omega)]; simp [word_Put.j0]
theorem lives01 : Ev (fun k => inquestlaw01_lives.f k) true := by
  refine Ev.bind (f := fun _ (t105 : List Int) => (if (t105.length : Int) = 1 then ((word_Zig.f 1).bind fun t108 => (some (t108 == 2))) else (some false))) (word_Put_ev 1 1 (by omega) (by omega)) (Ev.congr (fun _ => (by decide +kernel : _ = some true)) (Ev.now true))
theorem same01_l0 (d : Nat) : ∀ (a b : List Int) (i : Nat), a.length = b.length → a.length ≤ 9223372036854775806 → a.length - i = d → i ≤ a.length →
    Ev (fun k => inquestref01_Same.l0 k a b i) (decide (a.drop i = b.drop i)) := by
  induction d with
  | zero =>
    intro a b i h hl hd hi
    refine ⟨1, fun k hk => ?_⟩
    obtain ⟨k, rfl⟩ : ∃ j, k = j + 1 := ⟨k - 1, by omega⟩
    simp only [inquestref01_Same.l0]; rw [if_neg (by omega), List.drop_of_length_le (by omega), List.drop_of_length_le (by omega)]; simp
  | succ d ih =>
    intro a b i h hl hd hi
    have e : (a.drop i = b.drop i) ↔ (rd a i = rd b i ∧ a.drop (i + 1) = b.drop (i + 1)) := by
      rw [List.drop_eq_getElem_cons (show i < a.length by omega), List.drop_eq_getElem_cons (show i < b.length by omega), List.cons.injEq]
      simp [rd, List.getElem?_eq_getElem (show i < a.length by omega), List.getElem?_eq_getElem (show i < b.length by omega)]
    by_cases c : rd a i = rd b i
    · have h' := ih a b (i + 1) h hl (by omega) (by omega)
      rw [show decide (a.drop i = b.drop i) = decide (a.drop (i + 1) = b.drop (i + 1)) from by simp [e, c]]
      refine Ev.step (fun k => ?_) h'
      simp only [inquestref01_Same.l0]
      rw [if_pos (by omega), if_pos (by omega), if_pos (by omega), if_pos c, w64 (by omega) (by omega)]; rfl
    · refine ⟨1, fun k hk => ?_⟩
      obtain ⟨k, rfl⟩ : ∃ j, k = j + 1 := ⟨k - 1, by omega⟩
      simp only [inquestref01_Same.l0]
      rw [if_pos (by omega), if_pos (by omega), if_pos (by omega), if_neg c]; simp [e, c]
/-- What Same answers: whether the lists are the same. -/
theorem same01 (a b : List Int) (hl : a.length ≤ 9223372036854775806) : Ev (fun k => inquestref01_Same.f k a b) (decide (a = b)) := by
  by_cases h : a.length = b.length
  · have h' := same01_l0 a.length a b 0 h hl (by omega) (by omega)
    simp only [List.drop_zero] at h'
    refine Ev.congr (fun k => ?_) h'
    unfold inquestref01_Same.f
    rw [if_pos (by omega)]; rfl
  · have n : a ≠ b := fun e => h (by rw [e])
    rw [decide_eq_false n]
    refine Ev.congr (fun k => ?_) (Ev.now false)
    unfold inquestref01_Same.f
    rw [if_neg (by omega)]
theorem same01_t (a b : List Int) (hl : a.length ≤ 9223372036854775806) (h : a = b) : Ev (fun k => inquestref01_Same.f k a b) true := by
  have := same01 a b hl; rwa [decide_eq_true h] at this
theorem rd_drop (l : List Int) (i : Nat) (h : i < l.length) : l.drop i = rd l i :: l.drop (i + 1) := by
  rw [List.drop_eq_getElem_cons h]; congr 1; simp [rd, List.getElem?_eq_getElem h]
theorem rd_mem (l : List Int) (i : Nat) (h : i < l.length) : rd l i ∈ l := by
  simp [rd, List.getElem?_eq_getElem h]
theorem cut01 (l : List Int) (n : Nat) : inquestref01_Cut.f l n = some (l.take n) := by
  unfold inquestref01_Cut.f
  by_cases c : l.length ≤ n
  · rw [if_neg (by omega), List.take_of_length_le c]
  · rw [if_pos (by omega), if_pos (by omega), if_pos (by omega), Int.toNat_natCast]
theorem copy01 (l : List Int) (h : l.length < 140737488355328) : inquestref01_Copy.f l = some l := by
  unfold inquestref01_Copy.f
  rw [if_pos (by simpa using h)]; rfl
theorem wf_u8 {x : Int} (h : (Lit.int .u8 x).wf = true) : 0 ≤ x ∧ x < 256 := by
  simp [Lit.wf, IntKind.min, IntKind.max, IntKind.signed, IntKind.bits] at h; omega
theorem wf_u8s {l : List Int} (h : ∀ x ∈ l, (Lit.int .u8 x).wf = true) : ∀ x ∈ l, 0 ≤ x ∧ x < 256 := fun x hx => wf_u8 (h x hx)
/-- A short number's bytes; d: one less than as many as it may have. -/
def varL : Nat → Int → List Int
  | 0, x => [x]
  | d + 1, x => if 128 ≤ x then (x % 128 + 128) :: varL d (x / 128) else [x]
theorem varL_len (d : Nat) : ∀ x, 1 ≤ (varL d x).length ∧ (varL d x).length ≤ d + 1 := by
  induction d with
  | zero => intro x; simp [varL]
  | succ d ih => intro x; unfold varL; split <;> simp; exact ih _ |>.2
theorem varL_more (d : Nat) : ∀ (x : Int) (e : Nat), x < 128 ^ (d + 1) → d ≤ e → varL e x = varL d x := by
  induction d with
  | zero =>
    intro x e h _
    cases e with
    | zero => rfl
    | succ e => unfold varL; rw [if_neg (by simp at h; omega)]
  | succ d ih =>
    intro x e h he
    obtain ⟨e, rfl⟩ : ∃ m, e = m + 1 := ⟨e - 1, by omega⟩
    have p : (128 : Int) ^ (d + 1 + 1) = 128 ^ (d + 1) * 128 := Int.pow_succ ..
    unfold varL
    split
    · rw [ih _ _ (by omega) (by omega)]
    · rfl
theorem or128 (x : Int) : Go.bits .or .u8 (x % 256) 128 = x % 128 + 128 := by
  have key : ∀ y : Nat, y < 256 → Go.bits .or .u8 (y : Int) 128 = (y : Int) % 128 + 128 := by decide +kernel
  have := key (x % 256).toNat (by omega)
  rw [show (((x % 256).toNat : Nat) : Int) = x % 256 from by omega] at this
  rw [this]; omega
theorem pow128_le (n : Nat) (h : n ≤ 9) : (128 : Int) ^ n ≤ 9223372036854775808 := by
  have h2 : (128 : Int) ^ n * 128 ^ (9 - n) = 9223372036854775808 := by rw [← Int.pow_add, show n + (9 - n) = 9 from by omega]; decide
  have h3 : (0 : Int) < 128 ^ (9 - n) := Int.pow_pos (by decide)
  have h4 : (0 : Int) < 128 ^ n := Int.pow_pos (by decide)
  calc (128 : Int) ^ n = 128 ^ n * 1 := by omega
    _ ≤ 128 ^ n * 128 ^ (9 - n) := Int.mul_le_mul_of_nonneg_left (by omega) (by omega)
    _ = _ := h2
theorem u64_128 {x : Int} (h : x < 18446744073709551616) : x < 128 ^ (9 + 1) := by
  have : (128 : Int) ^ (9 + 1) = 1180591620717411303424 := by decide
  omega
theorem word_Var_l0 (d : Nat) : ∀ (x : Int) (xs : List Int), 0 ≤ x → x < 128 ^ (d + 1) → xs.length + d ≤ 20 → Ev (fun k => word_Var.l0 k x xs) (xs ++ varL d x) := by
  induction d with
  | zero =>
    intro x xs h0 hx hl
    refine Ev.step (f := fun _ => some (xs ++ [x])) (fun k => ?_) (Ev.now _)
    simp only [word_Var.l0]
    rw [if_neg (by simp at hx; omega), if_pos (by omega), Int.emod_eq_of_lt h0 (by simp at hx; omega)]
  | succ d ih =>
    intro x xs h0 hx hl
    have p : (128 : Int) ^ (d + 1 + 1) = 128 ^ (d + 1) * 128 := Int.pow_succ ..
    by_cases c : 128 ≤ x
    · have g := ih (x / 128) (xs ++ [x % 128 + 128]) (by omega) (by omega) (by simp; omega)
      rw [show varL (d + 1) x = (x % 128 + 128) :: varL d (x / 128) from by rw [varL, if_pos c]]
      rw [List.append_assoc] at g
      refine Ev.step (fun k => ?_) g
      simp only [word_Var.l0]
      rw [if_pos (by omega), if_pos (by omega), or128]
    · rw [show varL (d + 1) x = [x] from by rw [varL, if_neg c]]
      refine Ev.step (f := fun _ => some (xs ++ [x])) (fun k => ?_) (Ev.now _)
      simp only [word_Var.l0]
      rw [if_neg (by omega), if_pos (by omega), Int.emod_eq_of_lt h0 (by omega)]
theorem word_Var_ev (x : Int) (h0 : 0 ≤ x) (h1 : x < 18446744073709551616) : Ev (fun k => word_Var.f k x) (varL 9 x) :=
  word_Var_l0 9 x [] h0 (u64_128 h1) (by simp)
theorem r01_Var_d (d : Nat) : ∀ (x : Int), 0 ≤ x → x < 18446744073709551616 → x < 128 ^ (d + 1) → d ≤ 20 → Ev (fun k => inquestref01_Var.f k x) (varL d x) := by
  induction d with
  | zero =>
    intro x h0 h1 hx _
    refine Ev.step (f := fun _ => some [x]) (fun k => ?_) (Ev.now _)
    simp only [inquestref01_Var.f]
    rw [if_pos (by simp at hx; omega), Int.emod_eq_of_lt h0 (by simp at hx; omega)]
  | succ d ih =>
    intro x h0 h1 hx hd
    have p : (128 : Int) ^ (d + 1 + 1) = 128 ^ (d + 1) * 128 := Int.pow_succ ..
    by_cases c : 128 ≤ x
    · rw [show varL (d + 1) x = (x % 128 + 128) :: varL d (x / 128) from by rw [varL, if_pos c]]
      have l := varL_len d (x / 128)
      refine Ev.step (f := fun k => (inquestref01_Var.f k (x / 128)).bind fun t134 => if ([x % 128 + 128] : List Int).length + t134.length < 140737488355328 then some ([x % 128 + 128] ++ t134) else none) (fun k => ?_) ?_
      · simp only [inquestref01_Var.f]
        rw [if_neg (by omega)]
        simp only [Option.bind_some]
        rw [Int.tdiv_eq_ediv_of_nonneg h0, Int.tmod_eq_emod_of_nonneg h0, wu64, wu64, Int.emod_eq_of_lt (a := x / 128) (by omega) (by omega), show (128 + x % 128) % 18446744073709551616 % 256 = x % 128 + 128 from by omega]
      · refine Ev.bind (f := fun _ t134 => if ([x % 128 + 128] : List Int).length + t134.length < 140737488355328 then some ([x % 128 + 128] ++ t134) else none) (ih (x / 128) (by omega) (by omega) (by omega) (by omega)) ?_
        exact Ev.congr (fun _ => if_pos (by simp; omega)) (Ev.now _)
    · rw [show varL (d + 1) x = [x] from by rw [varL, if_neg c]]
      refine Ev.step (f := fun _ => some [x]) (fun k => ?_) (Ev.now _)
      simp only [inquestref01_Var.f]
      rw [if_pos (by omega), Int.emod_eq_of_lt h0 (by omega)]
theorem r01_Var_ev (x : Int) (h0 : 0 ≤ x) (h1 : x < 18446744073709551616) : Ev (fun k => inquestref01_Var.f k x) (varL 9 x) :=
  r01_Var_d 9 x h0 h1 (u64_128 h1) (by omega)
/-- What a short number's bytes say from place i on: the number, how many bytes it has from there on, the error. -/
def readR : Nat → List Int → Int × Int × Int
  | _, [] => (0, 0, 3)
  | i, c :: l => if i = 9 ∧ 1 < c ∨ 0 < i ∧ c = 0 then (0, 0, 4) else if c < 128 then (c, 1, 0) else
    if (readR (i + 1) l).2.2 = 0 then (c - 128 + 128 * (readR (i + 1) l).1, (readR (i + 1) l).2.1 + 1, 0) else (0, 0, (readR (i + 1) l).2.2)
theorem readR_bd : ∀ (l : List Int) (i : Nat), i ≤ 9 → (∀ c ∈ l, 0 ≤ c ∧ c < 256) → 0 ≤ (readR i l).1 ∧ (readR i l).1 * 128 ^ i < 18446744073709551616 ∧ 0 ≤ (readR i l).2.1 ∧ (readR i l).2.1 ≤ l.length ∧ ((readR i l).2.2 = 0 → 1 ≤ (readR i l).2.1 ∧ (readR i l).2.1 + i ≤ 10 ∧ (0 < i → 0 < (readR i l).1)) ∧ ((readR i l).2.2 ≠ 0 → (readR i l).1 = 0 ∧ (readR i l).2.1 = 0)
  | [], i, hi, _ => by simp [readR]
  | c :: l, i, hi, hb => by
    have hc := hb c (by simp)
    unfold readR
    have p := pow128_le i hi
    have q : (0 : Int) < 128 ^ i := Int.pow_pos (by decide)
    split
    · simp; omega
    · rename_i h1
      split
      · rename_i h2
        refine ⟨hc.1, ?_, by simp, by simp; omega, fun _ => ⟨by simp, by simp; omega, fun h => by simp; omega⟩, fun h => by simp at h⟩
        by_cases h9 : i = 9
        · subst h9
          have : c = 1 ∨ c = 0 := by omega
          rcases this with rfl | rfl <;> simp
        · have p := pow128_le (i + 1) (by omega)
          have e : (128 : Int) ^ (i + 1) = 128 ^ i * 128 := Int.pow_succ ..
          have : c * 128 ^ i ≤ 127 * 128 ^ i := Int.mul_le_mul_of_nonneg_right (by omega) (by omega)
          simp only; omega
      · rename_i h2
        have h9 : i < 9 := by omega
        obtain ⟨a, b, c1, d, e, f⟩ := readR_bd l (i + 1) (by omega) (fun x hx => hb x (by simp [hx]))
        split
        · rename_i h3
          obtain ⟨e1, e2, e3⟩ := e h3
          have e3 := e3 (by omega)
          refine ⟨by simp only; omega, ?_, by simp only; omega, by simp; omega, fun _ => ⟨by simp only; omega, by simp only; omega, fun h => by simp only; omega⟩, fun h => by simp at h⟩
          have ex : (128 : Int) ^ (i + 1) = 128 ^ i * 128 := Int.pow_succ ..
          have hm : (readR (i + 1) l).1 * 128 ^ (i + 1) + 128 ^ (i + 1) ≤ 18446744073709551616 := by
            have hd : (18446744073709551616 : Int) = 128 ^ (i + 1) * (2 * 128 ^ (8 - i)) := by
              rw [show (128 : Int) ^ (i + 1) * (2 * 128 ^ (8 - i)) = 2 * (128 ^ (i + 1) * 128 ^ (8 - i)) from by rw [Int.mul_left_comm], ← Int.pow_add, show i + 1 + (8 - i) = 9 from by omega]; decide
            have hlt : (readR (i + 1) l).1 < 2 * 128 ^ (8 - i) := by
              rw [hd, Int.mul_comm] at b
              exact Int.lt_of_mul_lt_mul_left b (Int.le_of_lt (Int.pow_pos (by decide)))
            rw [hd]
            calc (readR (i + 1) l).1 * 128 ^ (i + 1) + 128 ^ (i + 1) = 128 ^ (i + 1) * ((readR (i + 1) l).1 + 1) := by rw [Int.mul_add, Int.mul_one, Int.mul_comm]
              _ ≤ _ := Int.mul_le_mul_of_nonneg_left (by omega) (Int.le_of_lt (Int.pow_pos (by decide)))
          have hk : (c - 128) * 128 ^ i ≤ 127 * 128 ^ i := Int.mul_le_mul_of_nonneg_right (by omega) (by omega)
          have hs : (c - 128 + 128 * (readR (i + 1) l).1) * 128 ^ i = (c - 128) * 128 ^ i + (readR (i + 1) l).1 * 128 ^ (i + 1) := by
            rw [Int.add_mul, ex, Int.mul_comm 128 (readR (i + 1) l).1, Int.mul_assoc, Int.mul_comm 128 (128 ^ i)]
          simp only; rw [hs]; omega
        · refine ⟨by simp, by simp, by simp, by simp; omega, fun h => ?_, fun _ => ⟨rfl, rfl⟩⟩
          rename_i h3; exact absurd h h3
theorem and127 (c : Int) (h0 : 0 ≤ c) (h1 : c < 256) : Go.bits .and .u8 c 127 = c % 128 := by
  have key : ∀ y : Nat, y < 256 → Go.bits .and .u8 (y : Int) 127 = (y : Int) % 128 := by decide +kernel
  have := key c.toNat (by omega)
  rwa [show ((c.toNat : Nat) : Int) = c from by omega] at this
theorem or_add (x y : Int) (n : Nat) (h0 : 0 ≤ x) (h1 : x < 128 ^ n) (y0 : 0 ≤ y) (h : x + y * 128 ^ n < 18446744073709551616) : Go.bits .or .u64 x (y * 128 ^ n) = x + y * 128 ^ n := by
  obtain ⟨x, rfl⟩ := Int.eq_ofNat_of_zero_le h0
  obtain ⟨y, rfl⟩ := Int.eq_ofNat_of_zero_le y0
  have e : (128 : Int) ^ n = ((2 ^ (7 * n) : Nat) : Int) := by rw [Nat.pow_mul]; simp
  have q : (0 : Int) < 128 ^ n := Int.pow_pos (by decide)
  rw [e] at h h1 q ⊢
  have e2 : ((y : Int) * ((2 ^ (7 * n) : Nat) : Int)) = ((2 ^ (7 * n) * y : Nat) : Int) := by rw [Nat.mul_comm (2 ^ (7 * n))]; simp
  rw [e2] at h ⊢
  have hx : x < 18446744073709551616 := by omega
  rw [bo_u64, BitVec.toNat_or, BitVec.toNat_ofInt, BitVec.toNat_ofInt, wu64, show ((x : Int) % ((2 ^ 64 : Nat) : Int)).toNat = x from by omega, show (((2 ^ (7 * n) * y : Nat) : Int) % ((2 ^ 64 : Nat) : Int)).toNat = 2 ^ (7 * n) * y from by omega, Nat.or_comm, ← Nat.two_pow_add_eq_or_of_lt (by omega)]
  omega
theorem word_ReadVar_l0 : ∀ (d : Nat) (b : List Int) (x : Int) (i : Nat), (∀ c ∈ b, 0 ≤ c ∧ c < 256) → b.length - i = d → i ≤ b.length → i ≤ 9 → b.length ≤ 140737488351232 → 0 ≤ x → x < 128 ^ i →
    Ev (fun k => word_ReadVar.l0 k x b (b.length : Int) i) (if (readR i (b.drop i)).2.2 = 0 then (x + (readR i (b.drop i)).1 * 128 ^ i, i + (readR i (b.drop i)).2.1, 0) else (0, 0, (readR i (b.drop i)).2.2)) := by
  intro d
  induction d with
  | zero =>
    intro b x i hb hd hi h9 hl h0 hx
    rw [List.drop_of_length_le (by omega)]
    refine Ev.step (f := fun _ => some (0, 0, 3)) (fun k => ?_) (Ev.now _)
    simp only [word_ReadVar.l0]; rw [if_neg (by omega)]
  | succ d ih =>
    intro b x i hb hd hi h9 hl h0 hx
    have hc := hb _ (rd_mem b i (by omega))
    have hbd := readR_bd (b.drop i) i h9 (fun c hc => hb c (List.mem_of_mem_drop hc))
    rw [rd_drop b i (by omega)] at hbd ⊢
    have p := pow128_le i h9
    have q : (0 : Int) < 128 ^ i := Int.pow_pos (by decide)
    have start : ∀ k, word_ReadVar.l0 (k + 1) x b (b.length : Int) i = word_ReadVar.j1 k x i (rd b i) b (b.length : Int) i (decide (i = 9 ∧ 1 < rd b i)) := by
      intro k
      simp only [word_ReadVar.l0]
      rw [if_pos (by omega), if_pos (by omega), if_pos (by omega)]
      by_cases c9 : i = 9
      · rw [if_pos (by omega)]; congr 1; simp [c9]
      · rw [if_neg (by omega), decide_eq_false (by omega)]
    have e7 : ∀ c : Int, 0 ≤ c → c < 256 → shl .u64 (IntKind.u64.wrap (Go.bits .and .u8 c 127)) (wrap64 (7 * (i : Int))) = (c % 128) * 128 ^ i % 18446744073709551616 := by
      intro c c0 c1
      unfold shl
      rw [and127 c c0 c1, wu64, wu64, w64 (by omega) (by omega), show (7 * (i : Int)).toNat = 7 * i from by omega, show min (7 * i) IntKind.u64.bits = 7 * i from Nat.min_eq_left (by simp only [IntKind.bits]; omega), Int.emod_eq_of_lt (a := c % 128) (by omega) (by omega), Int.pow_mul]; rfl
    refine Ev.step start ?_
    have er : readR i (rd b i :: b.drop (i + 1)) = if i = 9 ∧ 1 < rd b i ∨ 0 < i ∧ rd b i = 0 then (0, 0, 4) else if rd b i < 128 then (rd b i, 1, 0) else
      if (readR (i + 1) (b.drop (i + 1))).2.2 = 0 then (rd b i - 128 + 128 * (readR (i + 1) (b.drop (i + 1))).1, (readR (i + 1) (b.drop (i + 1))).2.1 + 1, 0) else (0, 0, (readR (i + 1) (b.drop (i + 1))).2.2) := by rw [readR]
    by_cases f1 : i = 9 ∧ 1 < rd b i
    · rw [if_pos (.inl f1)] at er
      rw [er, decide_eq_true f1]
      exact Ev.step (f := fun _ => some (0, 0, 4)) (fun k => by simp [word_ReadVar.j1]) (Ev.now _)
    · rw [decide_eq_false f1]
      by_cases f2 : 0 < i ∧ rd b i = 0
      · rw [if_pos (.inr f2)] at er
        rw [er]
        refine Ev.step (f := fun _ => some (0, 0, 4)) (fun k => ?_) (Ev.now _)
        simp only [word_ReadVar.j1]
        rw [if_neg (by simp), if_pos (by rw [w64 (by omega) (by omega)]; omega), if_pos (by omega), if_pos f2.2, if_pos (by omega)]
      · rw [if_neg (by omega)] at er
        by_cases f3 : rd b i < 128
        · rw [if_pos f3] at er
          rw [er]
          simp only [if_true]
          have hlt : x + rd b i * 128 ^ i < 18446744073709551616 := by
            by_cases h9' : i = 9
            · have : rd b i = 1 ∨ rd b i = 0 := by omega
              have e9 : (128 : Int) ^ i = 9223372036854775808 := by rw [h9']; decide
              rw [e9] at hx ⊢
              rcases this with e | e <;> rw [e] <;> omega
            · have p := pow128_le (i + 1) (by omega)
              have e : (128 : Int) ^ (i + 1) = 128 ^ i * 128 := Int.pow_succ ..
              have : rd b i * 128 ^ i ≤ 127 * 128 ^ i := Int.mul_le_mul_of_nonneg_right (by omega) (by omega)
              omega
          have o := or_add x (rd b i) i h0 hx hc.1 hlt
          refine Ev.step (f := fun _ => some (x + rd b i * 128 ^ i, (i : Int) + 1, 0)) (fun k => ?_) (Ev.now _)
          have hm : 0 ≤ rd b i * 128 ^ i := Int.mul_nonneg hc.1 (by omega)
          simp only [word_ReadVar.j1]
          rw [if_neg (by simp), if_pos (by rw [w64 (by omega) (by omega)]; omega), if_pos f3, e7 _ hc.1 hc.2, Int.emod_eq_of_lt (a := rd b i) (by omega) f3, Int.emod_eq_of_lt (a := rd b i * 128 ^ i) hm (by omega), o, w64 (i := (i : Int) + 1) (by omega) (by omega)]
          by_cases f4 : rd b i = 0
          · rw [if_pos f4, if_neg (by omega)]
          · rw [if_neg f4]
        · rw [if_neg f3] at er
          rw [er]
          have h8 : i < 9 := by omega
          have p2 := pow128_le (i + 1) (by omega)
          have e : (128 : Int) ^ (i + 1) = 128 ^ i * 128 := Int.pow_succ ..
          have hk : (rd b i - 128) * 128 ^ i ≤ 127 * 128 ^ i := Int.mul_le_mul_of_nonneg_right (by omega) (by omega)
          have hm : 0 ≤ (rd b i - 128) * 128 ^ i := Int.mul_nonneg (by omega) (by omega)
          have o := or_add x (rd b i - 128) i h0 hx (by omega) (by omega)
          have g := ih b (x + (rd b i - 128) * 128 ^ i) (i + 1) hb (by omega) (by omega) (by omega) hl (by omega) (by omega)
          have fin : (if (readR (i + 1) (b.drop (i + 1))).2.2 = 0 then (x + (rd b i - 128) * 128 ^ i + (readR (i + 1) (b.drop (i + 1))).1 * 128 ^ (i + 1), ((i + 1 : Nat) : Int) + (readR (i + 1) (b.drop (i + 1))).2.1, (0 : Int)) else (0, 0, (readR (i + 1) (b.drop (i + 1))).2.2)) = (if (if (readR (i + 1) (b.drop (i + 1))).2.2 = 0 then (rd b i - 128 + 128 * (readR (i + 1) (b.drop (i + 1))).1, (readR (i + 1) (b.drop (i + 1))).2.1 + 1, (0 : Int)) else (0, 0, (readR (i + 1) (b.drop (i + 1))).2.2)).2.2 = 0 then (x + (if (readR (i + 1) (b.drop (i + 1))).2.2 = 0 then (rd b i - 128 + 128 * (readR (i + 1) (b.drop (i + 1))).1, (readR (i + 1) (b.drop (i + 1))).2.1 + 1, (0 : Int)) else (0, 0, (readR (i + 1) (b.drop (i + 1))).2.2)).1 * 128 ^ i, (i : Int) + (if (readR (i + 1) (b.drop (i + 1))).2.2 = 0 then (rd b i - 128 + 128 * (readR (i + 1) (b.drop (i + 1))).1, (readR (i + 1) (b.drop (i + 1))).2.1 + 1, (0 : Int)) else (0, 0, (readR (i + 1) (b.drop (i + 1))).2.2)).2.1, (0 : Int)) else (0, 0, (if (readR (i + 1) (b.drop (i + 1))).2.2 = 0 then (rd b i - 128 + 128 * (readR (i + 1) (b.drop (i + 1))).1, (readR (i + 1) (b.drop (i + 1))).2.1 + 1, (0 : Int)) else (0, 0, (readR (i + 1) (b.drop (i + 1))).2.2)).2.2)) := by
            generalize readR (i + 1) (b.drop (i + 1)) = r
            by_cases h : r.2.2 = 0
            · simp only [if_pos h, if_true]
              congr 1
              · rw [Int.add_mul, e, Int.mul_comm 128 r.1, Int.mul_assoc, Int.mul_comm 128 (128 ^ i)]; omega
              · congr 1; omega
            · simp only [if_neg h]
          rw [fin] at g
          refine Ev.step (fun k => ?_) g
          simp only [word_ReadVar.j1]
          rw [if_neg (by simp), if_pos (by rw [w64 (by omega) (by omega)]; omega), if_neg f3, e7 _ hc.1 hc.2, show rd b i % 128 = rd b i - 128 from by omega, Int.emod_eq_of_lt (a := (rd b i - 128) * 128 ^ i) hm (by omega), o, w64 (i := (i : Int) + 1) (by omega) (by omega)]
          rfl
theorem word_ReadVar_ev (b : List Int) (hb : ∀ c ∈ b, 0 ≤ c ∧ c < 256) (hl : b.length ≤ 140737488351232) : Ev (fun k => word_ReadVar.f k b) (readR 0 b) := by
  have g := word_ReadVar_l0 b.length b 0 0 hb rfl (by omega) (by omega) hl (by omega) (by decide)
  have d := readR_bd b 0 (by omega) hb
  rw [List.drop_zero] at g
  have e : (if (readR 0 b).2.2 = 0 then ((0 : Int) + (readR 0 b).1 * 128 ^ 0, ((0 : Nat) : Int) + (readR 0 b).2.1, (0 : Int)) else (0, 0, (readR 0 b).2.2)) = readR 0 b := by
    rcases h : readR 0 b with ⟨v, n, e⟩
    rw [h] at d
    by_cases c : e = 0
    · simp [c]
    · obtain ⟨rfl, rfl⟩ := d.2.2.2.2.2 c
      simp [c]
  rw [e] at g
  exact g
/-- The number that low sevens of bits are, the lowest first. -/
def valL : List Int → Int
  | [] => 0
  | c :: l => c % 128 + 128 * valL l
theorem valL_nonneg : ∀ l, 0 ≤ valL l
  | [] => by simp [valL]
  | c :: l => by have := valL_nonneg l; unfold valL; omega
theorem valL_drop : ∀ (j : Nat) (l : List Int), valL (l.drop j) ≤ valL l
  | 0, l => by simp
  | j + 1, [] => by simp
  | j + 1, c :: l => by
    have := valL_drop j l
    have := valL_nonneg l
    rw [List.drop_succ_cons]
    show _ ≤ c % 128 + 128 * valL l
    omega
theorem valL_readR : ∀ (l : List Int) (i : Nat), i ≤ 9 → (∀ c ∈ l, 0 ≤ c ∧ c < 256) → (readR i l).2.2 = 0 → valL (l.take (readR i l).2.1.toNat) = (readR i l).1
  | [], i, hi, _, h => by simp [readR] at h
  | c :: l, i, hi, hb, h => by
    have hc := hb c (by simp)
    unfold readR at h ⊢
    split at h
    · simp at h
    · rename_i h1
      rw [if_neg h1]
      split at h
      · rename_i h2
        rw [if_pos h2]
        simp [valL]; omega
      · rename_i h2
        rw [if_neg h2]
        have h9 : i < 9 := by omega
        have hbd := readR_bd l (i + 1) (by omega) (fun x hx => hb x (by simp [hx]))
        split at h
        · rename_i h3
          rw [if_pos h3]
          have ih := valL_readR l (i + 1) (by omega) (fun x hx => hb x (by simp [hx])) h3
          simp only
          rw [show ((readR (i + 1) l).2.1 + 1).toNat = (readR (i + 1) l).2.1.toNat + 1 from by omega, List.take_succ_cons, valL, ih]
          omega
        · rename_i h3
          exact absurd h h3
theorem r01_ReadVar_l1 (j : Nat) : ∀ (b : List Int) (n : Nat), (∀ c ∈ b, 0 ≤ c ∧ c < 256) → n ≤ b.length → b.length ≤ 140737488351232 → j ≤ n → valL (b.take n) < 18446744073709551616 →
    Ev (fun k => inquestref01_ReadVar.l1 k b n (valL ((b.take n).drop j)) ((j : Int) - 1)) (valL (b.take n), (n : Int), 0) := by
  induction j with
  | zero =>
    intro b n hb hn hl hj hv
    refine Ev.step (f := fun _ => some (valL (b.take n), (n : Int), 0)) (fun k => ?_) (Ev.now _)
    simp only [inquestref01_ReadVar.l1]
    rw [if_neg (by omega), List.drop_zero]
  | succ j ih =>
    intro b n hb hn hl hj hv
    have e : (b.take n).drop j = rd b j :: (b.take n).drop (j + 1) := by
      rw [List.drop_eq_getElem_cons (by simp; omega), List.getElem_take]
      congr 1
      simp [rd, List.getElem?_eq_getElem (show j < b.length by omega)]
    have hc := hb _ (rd_mem b j (by omega))
    have g := ih b n hb hn hl (by omega) hv
    have d := valL_drop j (b.take n)
    rw [e, valL] at g d
    have v0 := valL_nonneg ((b.take n).drop (j + 1))
    refine Ev.step (fun k => ?_) g
    simp only [inquestref01_ReadVar.l1]
    rw [if_pos (by omega), if_pos (by omega), if_pos (by omega), show ((j + 1 : Nat) : Int) - 1 = (j : Int) from by omega, w64 (by omega) (by omega), Int.tmod_eq_emod_of_nonneg hc.1, wu64, wu64, wu64, Int.emod_eq_of_lt (a := 128 * valL ((b.take n).drop (j + 1))) (by omega) (by omega), Int.emod_eq_of_lt (a := rd b j % 128) (by omega) (by omega), Int.emod_eq_of_lt (by omega) (by omega), Int.add_comm]
theorem r01_ReadVar_l0 : ∀ (d : Nat) (b : List Int) (i : Nat), (∀ c ∈ b, 0 ≤ c ∧ c < 256) → b.length - i = d → i ≤ b.length → i ≤ 9 → b.length ≤ 140737488351232 →
    (∀ m v, readR i (b.drop i) = (v, m, 0) → valL (b.take (i + m.toNat)) < 18446744073709551616) →
    Ev (fun k => inquestref01_ReadVar.l0 k b ((i : Int) + 1)) (if (readR i (b.drop i)).2.2 = 0 then (valL (b.take (i + (readR i (b.drop i)).2.1.toNat)), i + (readR i (b.drop i)).2.1, 0) else (0, 0, (readR i (b.drop i)).2.2)) := by
  intro d
  induction d with
  | zero =>
    intro b i hb hd hi h9 hl hv
    rw [List.drop_of_length_le (by omega)]
    refine Ev.step (f := fun k => inquestref01_ReadVar.j1 k b ((i : Int) + 1) false) (fun k => ?_) ?_
    · simp only [inquestref01_ReadVar.l0]; rw [if_neg (by omega)]
    · refine Ev.step (f := fun _ => some (0, 0, 3)) (fun k => ?_) (Ev.now _)
      simp [inquestref01_ReadVar.j1]
  | succ d ih =>
    intro b i hb hd hi h9 hl hv
    have hc := hb _ (rd_mem b i (by omega))
    have hbd := readR_bd (b.drop i) i h9 (fun c hc => hb c (List.mem_of_mem_drop hc))
    rw [rd_drop b i (by omega)] at hbd hv ⊢
    have er : readR i (rd b i :: b.drop (i + 1)) = if i = 9 ∧ 1 < rd b i ∨ 0 < i ∧ rd b i = 0 then (0, 0, 4) else if rd b i < 128 then (rd b i, 1, 0) else
      if (readR (i + 1) (b.drop (i + 1))).2.2 = 0 then (rd b i - 128 + 128 * (readR (i + 1) (b.drop (i + 1))).1, (readR (i + 1) (b.drop (i + 1))).2.1 + 1, 0) else (0, 0, (readR (i + 1) (b.drop (i + 1))).2.2) := by rw [readR]
    refine Ev.step (f := fun k => inquestref01_ReadVar.j1 k b ((i : Int) + 1) true) (fun k => ?_) ?_
    · simp only [inquestref01_ReadVar.l0]; rw [if_pos (by omega), decide_eq_true (by omega)]
    refine Ev.step (f := fun k => inquestref01_ReadVar.j2 k b ((i : Int) + 1) (rd b i) (decide (i = 9 ∧ 1 < rd b i ∨ 0 < i ∧ rd b i = 0))) (fun k => ?_) ?_
    · simp only [inquestref01_ReadVar.j1]
      rw [if_pos trivial, w64 (i := (i : Int) + 1 - 1) (by omega) (by omega), show (i : Int) + 1 - 1 = i from by omega, if_pos (by omega), if_pos (by omega)]
      by_cases c9 : i = 9
      · rw [if_pos (by omega)]
        by_cases c1 : rd b i > 1
        · rw [if_pos c1, decide_eq_true (.inl ⟨c9, c1⟩)]
        · rw [if_neg c1, if_pos (by omega)]; congr 1
          by_cases c0 : rd b i = 0
          · rw [decide_eq_true (.inr ⟨by omega, c0⟩)]; simp [c0]
          · rw [decide_eq_false (by omega)]; simp [c0]
      · rw [if_neg (by omega)]
        by_cases c1 : 0 < i
        · rw [if_pos (by omega)]; congr 1
          by_cases c0 : rd b i = 0
          · rw [decide_eq_true (.inr ⟨by omega, c0⟩)]; simp [c0]
          · rw [decide_eq_false (by omega)]; simp [c0]
        · rw [if_neg (by omega), decide_eq_false (by omega)]
    by_cases f1 : i = 9 ∧ 1 < rd b i ∨ 0 < i ∧ rd b i = 0
    · rw [if_pos f1] at er
      rw [er, decide_eq_true f1]
      exact Ev.step (f := fun _ => some (0, 0, 4)) (fun k => by simp [inquestref01_ReadVar.j2]) (Ev.now _)
    · rw [if_neg f1] at er
      rw [decide_eq_false f1]
      by_cases f3 : rd b i < 128
      · rw [if_pos f3] at er
        rw [er]
        rw [er] at hv
        have hv := hv 1 _ rfl
        simp only [if_true]
        have g := r01_ReadVar_l1 (i + 1) b (i + 1) hb (by omega) hl (by omega) hv
        rw [List.drop_of_length_le (by simp; omega)] at g
        refine Ev.step (fun k => ?_) g
        simp only [inquestref01_ReadVar.j2]
        rw [if_neg (by simp), if_pos f3, w64 (by omega) (by omega)]; rfl
      · rw [if_neg f3] at er
        rw [er]
        rw [er] at hv
        have hr := readR_bd (b.drop (i + 1)) (i + 1) (by omega) (fun c hc => hb c (List.mem_of_mem_drop hc))
        have g := ih b (i + 1) hb (by omega) (by omega) (by omega) hl (fun m v hm => by
          rw [hm] at hv hr
          have := hv (m + 1) _ (if_pos rfl)
          rw [show i + 1 + m.toNat = i + (m + 1).toNat from by have := hr.2.2.1; simp only at this; omega]
          exact this)
        refine Ev.step (f := fun k => inquestref01_ReadVar.l0 k b (((i + 1 : Nat) : Int) + 1)) (fun k => ?_) ?_
        · simp only [inquestref01_ReadVar.j2]
          rw [if_neg (by simp), if_neg f3, w64 (by omega) (by omega)]; rfl
        · have fin : (if (readR (i + 1) (b.drop (i + 1))).2.2 = 0 then (valL (b.take (i + 1 + (readR (i + 1) (b.drop (i + 1))).2.1.toNat)), ((i + 1 : Nat) : Int) + (readR (i + 1) (b.drop (i + 1))).2.1, (0 : Int)) else (0, 0, (readR (i + 1) (b.drop (i + 1))).2.2)) = (if (if (readR (i + 1) (b.drop (i + 1))).2.2 = 0 then (rd b i - 128 + 128 * (readR (i + 1) (b.drop (i + 1))).1, (readR (i + 1) (b.drop (i + 1))).2.1 + 1, (0 : Int)) else (0, 0, (readR (i + 1) (b.drop (i + 1))).2.2)).2.2 = 0 then (valL (b.take (i + (if (readR (i + 1) (b.drop (i + 1))).2.2 = 0 then (rd b i - 128 + 128 * (readR (i + 1) (b.drop (i + 1))).1, (readR (i + 1) (b.drop (i + 1))).2.1 + 1, (0 : Int)) else (0, 0, (readR (i + 1) (b.drop (i + 1))).2.2)).2.1.toNat)), (i : Int) + (if (readR (i + 1) (b.drop (i + 1))).2.2 = 0 then (rd b i - 128 + 128 * (readR (i + 1) (b.drop (i + 1))).1, (readR (i + 1) (b.drop (i + 1))).2.1 + 1, (0 : Int)) else (0, 0, (readR (i + 1) (b.drop (i + 1))).2.2)).2.1, (0 : Int)) else (0, 0, (if (readR (i + 1) (b.drop (i + 1))).2.2 = 0 then (rd b i - 128 + 128 * (readR (i + 1) (b.drop (i + 1))).1, (readR (i + 1) (b.drop (i + 1))).2.1 + 1, (0 : Int)) else (0, 0, (readR (i + 1) (b.drop (i + 1))).2.2)).2.2)) := by
            have h0 := hr.2.2.1
            revert h0
            generalize readR (i + 1) (b.drop (i + 1)) = r
            intro h0
            by_cases h : r.2.2 = 0
            · simp only [if_pos h, if_true]
              rw [show i + 1 + r.2.1.toNat = i + (r.2.1 + 1).toNat from by omega]
              congr 2; omega
            · simp only [if_neg h]
          rw [fin] at g
          exact g
theorem r01_ReadVar_ev (b : List Int) (hb : ∀ c ∈ b, 0 ≤ c ∧ c < 256) (hl : b.length ≤ 140737488351232) : Ev (fun k => inquestref01_ReadVar.f k b) (readR 0 b) := by
  have d := readR_bd b 0 (by omega) hb
  have va := valL_readR b 0 (by omega) hb
  have g := r01_ReadVar_l0 b.length b 0 hb rfl (by omega) (by omega) hl (fun m v h => by
    rw [List.drop_zero] at h
    rw [h] at va d
    have := va rfl
    simp only [Nat.zero_add] at this ⊢
    rw [this]; have := d.2.1; simpa using this)
  rw [List.drop_zero] at g
  have e : (if (readR 0 b).2.2 = 0 then (valL (b.take (0 + (readR 0 b).2.1.toNat)), ((0 : Nat) : Int) + (readR 0 b).2.1, (0 : Int)) else (0, 0, (readR 0 b).2.2)) = readR 0 b := by
    rw [Nat.zero_add]
    by_cases c : (readR 0 b).2.2 = 0
    · rw [if_pos c, va c, ← c]; simp
    · rw [if_neg c, ← (d.2.2.2.2.2 c).1]; 
      rcases h : readR 0 b with ⟨v, n, e⟩
      rw [h] at d
      obtain ⟨rfl, rfl⟩ := d.2.2.2.2.2 (by rw [h] at c; exact c)
      rfl
  rw [e] at g
  exact g
theorem WordVars : inquestlaw01_WordVars.Pure := by
  intro x b hx _ hl hb
  obtain ⟨x0, x1⟩ := wf_u64 hx
  have hb := wf_u8s hb
  refine Ev.rounds ?_
  have hc : inquestref01_Cut.f b 40 = some (b.take 40) := cut01 b 40
  have hb' : ∀ c ∈ b.take 40, 0 ≤ c ∧ c < 256 := fun c hc => hb c (List.mem_of_mem_take hc)
  have l40 : (b.take 40).length ≤ 40 := by rw [List.length_take]; omega
  unfold inquestlaw01_WordVars.f
  rw [hc]
  simp only [Option.bind_some, copy01 (b.take 40) (by omega)]
  generalize b.take 40 = l at hb' l40
  refine Ev.bind (f := fun k bt146 => (inquestref01_ReadVar.f k l).bind fun bt149 => (if bt146.1 = bt149.1 then (if bt146.2.1 = bt149.2.1 then (if bt146.2.2 = bt149.2.2 then ((word_Var.f k x).bind fun t152 => ((inquestref01_Var.f k x).bind fun t155 => ((inquestref01_Same.f k t152 t155).bind fun t158 => (if t158 = true then ((inquestref01_Same.f k l l).bind fun t159 => (if t159 = true then ((inquestlaw01_lives.f k).bind fun t160 => (some t160)) else (some false))) else (some false))))) else (some false)) else (some false)) else (some false))) (word_ReadVar_ev l hb' (by omega)) ?_
  refine Ev.bind (f := fun k bt149 => (if (readR 0 l).1 = bt149.1 then (if (readR 0 l).2.1 = bt149.2.1 then (if (readR 0 l).2.2 = bt149.2.2 then ((word_Var.f k x).bind fun t152 => ((inquestref01_Var.f k x).bind fun t155 => ((inquestref01_Same.f k t152 t155).bind fun t158 => (if t158 = true then ((inquestref01_Same.f k l l).bind fun t159 => (if t159 = true then ((inquestlaw01_lives.f k).bind fun t160 => (some t160)) else (some false))) else (some false))))) else (some false)) else (some false)) else (some false))) (r01_ReadVar_ev l hb' (by omega)) ?_
  simp only [if_true]
  refine Ev.bind (f := fun k t152 => ((inquestref01_Var.f k x).bind fun t155 => ((inquestref01_Same.f k t152 t155).bind fun t158 => (if t158 = true then ((inquestref01_Same.f k l l).bind fun t159 => (if t159 = true then ((inquestlaw01_lives.f k).bind fun t160 => (some t160)) else (some false))) else (some false))))) (word_Var_ev x x0 x1) ?_
  refine Ev.bind (f := fun k t155 => ((inquestref01_Same.f k (varL 9 x) t155).bind fun t158 => (if t158 = true then ((inquestref01_Same.f k l l).bind fun t159 => (if t159 = true then ((inquestlaw01_lives.f k).bind fun t160 => (some t160)) else (some false))) else (some false)))) (r01_Var_ev x x0 x1) ?_
  have lv := varL_len 9 x
  refine Ev.bind (f := fun k t158 => (if t158 = true then ((inquestref01_Same.f k l l).bind fun t159 => (if t159 = true then ((inquestlaw01_lives.f k).bind fun t160 => (some t160)) else (some false))) else (some false))) (same01_t _ _ (by omega) rfl) ?_
  simp only [if_true]
  refine Ev.bind (f := fun k t159 => (if t159 = true then ((inquestlaw01_lives.f k).bind fun t160 => (some t160)) else (some false))) (same01_t l l (by omega) rfl) ?_
  simp only [if_true]
  exact Ev.bind lives01 (Ev.now _)

end Go.Proofs.Ytidplimfeelonaa.Pure
