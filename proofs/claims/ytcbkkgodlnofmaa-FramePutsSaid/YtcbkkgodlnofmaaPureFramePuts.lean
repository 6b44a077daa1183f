/- The law FramePuts answers true at every input: frame.Put makes the document's frame, or tells why there is none. No condition. -/
import Derived.Test.YtcbkkgodlnofmaaPFramePutsx2
namespace Go.Proofs.Ytcbkkgodlnofmaa.Pure
open Go.RowKit Go.Proofs.Ytcbkkgodlnofmaa.PFramePuts Go.Proofs.YtcbkkgodlnofmaaW.PrintWords Go.Proofs.YtcbkkgodlnofmaaW.PrintLast Go.Proofs.YtcbkkgodlnofmaaW.PrintMore
set_option linter.unusedVariables false
set_option linter.unusedSimpArgs false
theorem w64 {i : Int} (h : -9223372036854775808 ≤ i) (h' : i ≤ 9223372036854775807) : wrap64 i = i := by unfold wrap64; omega
theorem wf_u64 {a : Int} (h : (Lit.int .u64 a).wf = true) : 0 ≤ a ∧ a < 18446744073709551616 := by
  simp [Lit.wf, IntKind.min, IntKind.max, IntKind.signed, IntKind.bits] at h; omega
theorem wf_i64 {a : Int} (h : (Lit.int .i64 a).wf = true) : -9223372036854775808 ≤ a ∧ a ≤ 9223372036854775807 := by
  simp [Lit.wf, IntKind.min, IntKind.max, IntKind.signed, IntKind.bits] at h; omega
theorem wf_u32 {a : Int} (h : (Lit.int .u32 a).wf = true) : 0 ≤ a ∧ a < 4294967296 := by
  simp [Lit.wf, IntKind.min, IntKind.max, IntKind.signed, IntKind.bits] at h; omega
theorem wu64 (n : Int) : IntKind.u64.wrap n = n % 18446744073709551616 := by simp [IntKind.wrap, IntKind.bits, IntKind.signed]
theorem wu32 (n : Int) : IntKind.u32.wrap n = n % 4294967296 := by simp [IntKind.wrap, IntKind.bits, IntKind.signed]
theorem wi64 (n : Int) : IntKind.i64.wrap n = wrap64 n := by
  simp [IntKind.wrap, IntKind.bits, IntKind.signed, wrap64]; split <;> omega
theorem bx_u64 (x y : Int) : Go.bits .xor .u64 x y = IntKind.u64.wrap ((BitVec.ofInt 64 x ^^^ BitVec.ofInt 64 y).toNat : Int) := rfl
theorem bx_i64 (x y : Int) : Go.bits .xor .i64 x y = IntKind.i64.wrap ((BitVec.ofInt 64 x ^^^ BitVec.ofInt 64 y).toNat : Int) := rfl
theorem ba_u64 (x y : Int) : Go.bits .and .u64 x y = IntKind.u64.wrap ((BitVec.ofInt 64 x &&& BitVec.ofInt 64 y).toNat : Int) := rfl
theorem bo_u64 (x y : Int) : Go.bits .or .u64 x y = IntKind.u64.wrap ((BitVec.ofInt 64 x ||| BitVec.ofInt 64 y).toNat : Int) := rfl
theorem bx_u32 (x y : Int) : Go.bits .xor .u32 x y = IntKind.u32.wrap ((BitVec.ofInt 32 x ^^^ BitVec.ofInt 32 y).toNat : Int) := rfl
theorem ba_u32 (x y : Int) : Go.bits .and .u32 x y = IntKind.u32.wrap ((BitVec.ofInt 32 x &&& BitVec.ofInt 32 y).toNat : Int) := rfl
theorem bo_u32 (x y : Int) : Go.bits .or .u32 x y = IntKind.u32.wrap ((BitVec.ofInt 32 x ||| BitVec.ofInt 32 y).toNat : Int) := rfl
theorem bo_u8 (x y : Int) : Go.bits .or .u8 x y = IntKind.u8.wrap ((BitVec.ofInt 8 x ||| BitVec.ofInt 8 y).toNat : Int) := rfl
theorem ba_u8 (x y : Int) : Go.bits .and .u8 x y = IntKind.u8.wrap ((BitVec.ofInt 8 x &&& BitVec.ofInt 8 y).toNat : Int) := rfl
theorem same01_l0 (d : Nat) : ∀ (a b : List Int) (i : Nat), a.length = b.length → a.length ≤ 9223372036854775806 → a.length - i = d → i ≤ a.length →
    Ev (fun k => inquestref01_Same.l0 k a b i) (decide (a.drop i = b.drop i)) := by
  induction d with
  | zero =>
    intro a b i h hl hd hi
    refine ⟨1, fun k hk => ?_⟩
    obtain ⟨k, rfl⟩ : ∃ j, k = j + 1 := ⟨k - 1, by omega⟩
    simp only [inquestref01_Same.l0]; rw [if_neg (by omega), List.drop_of_length_le (by omega), List.drop_of_length_le (by omega)]; simp
  | succ d ih =>
    intro a b i h hl hd hi
    have e : (a.drop i = b.drop i) ↔ (rd a i = rd b i ∧ a.drop (i + 1) = b.drop (i + 1)) := by
      rw [List.drop_eq_getElem_cons (show i < a.length by omega), List.drop_eq_getElem_cons (show i < b.length by omega), List.cons.injEq]
      simp [rd, List.getElem?_eq_getElem (show i < a.length by omega), List.getElem?_eq_getElem (show i < b.length by omega)]
    by_cases c : rd a i = rd b i
    · have h' := ih a b (i + 1) h hl (by omega) (by omega)
      rw [show decide (a.drop i = b.drop i) = decide (a.drop (i + 1) = b.drop (i + 1)) from by simp [e, c]]
      refine Ev.step (fun k => ?_) h'
      simp only [inquestref01_Same.l0]
      rw [if_pos (by omega), if_pos (by omega), if_pos (by omega), if_pos c, w64 (by omega) (by omega)]; rfl
    · refine ⟨1, fun k hk => ?_⟩
      obtain ⟨k, rfl⟩ : ∃ j, k = j + 1 := ⟨k - 1, by omega⟩
      simp only [inquestref01_Same.l0]
      rw [if_pos (by omega), if_pos (by omega), if_pos (by omega), if_neg c]; simp [e, c]
/-- What Same answers: whether the lists are the same. -/
theorem same01 (a b : List Int) (hl : a.length ≤ 9223372036854775806) : Ev (fun k => inquestref01_Same.f k a b) (decide (a = b)) := by
  by_cases h : a.length = b.length
  · have h' := same01_l0 a.length a b 0 h hl (by omega) (by omega)
    simp only [List.drop_zero] at h'
    refine Ev.congr (fun k => ?_) h'
    unfold inquestref01_Same.f
    rw [if_pos (by omega)]; rfl
  · have n : a ≠ b := fun e => h (by rw [e])
    rw [decide_eq_false n]
    refine Ev.congr (fun k => ?_) (Ev.now false)
    unfold inquestref01_Same.f
    rw [if_neg (by omega)]
theorem same01_t (a b : List Int) (hl : a.length ≤ 9223372036854775806) (h : a = b) : Ev (fun k => inquestref01_Same.f k a b) true := by
  have := same01 a b hl; rwa [decide_eq_true h] at this
theorem rd_drop (l : List Int) (i : Nat) (h : i < l.length) : l.drop i = rd l i :: l.drop (i + 1) := by
  rw [List.drop_eq_getElem_cons h]; congr 1; simp [rd, List.getElem?_eq_getElem h]
theorem rd_mem (l : List Int) (i : Nat) (h : i < l.length) : rd l i ∈ l := by
  simp [rd, List.getElem?_eq_getElem h]
theorem cut01 (l : List Int) (n : Nat) : inquestref01_Cut.f l n = some (l.take n) := by
  unfold inquestref01_Cut.f
  by_cases c : l.length ≤ n
  · rw [if_neg (by omega), List.take_of_length_le c]
  · rw [if_pos (by omega), if_pos (by omega), if_pos (by omega), Int.toNat_natCast]
theorem copy01 (l : List Int) (h : l.length < 140737488355328) : inquestref01_Copy.f l = some l := by
  unfold inquestref01_Copy.f
  rw [if_pos (by simpa using h)]; rfl
theorem wf_u8 {x : Int} (h : (Lit.int .u8 x).wf = true) : 0 ≤ x ∧ x < 256 := by
  simp [Lit.wf, IntKind.min, IntKind.max, IntKind.signed, IntKind.bits] at h; omega
theorem wf_u8s {l : List Int} (h : ∀ x ∈ l, (Lit.int .u8 x).wf = true) : ∀ x ∈ l, 0 ≤ x ∧ x < 256 := fun x hx => wf_u8 (h x hx)
/-- The bytes of a number, the highest first. -/
def putL (x : Int) : Nat → List Int
  | 0 => []
  | n + 1 => putL (x / 256) n ++ [x % 256]
theorem putL_length (x : Int) (n : Nat) : (putL x n).length = n := by
  induction n generalizing x with
  | zero => rfl
  | succ n ih => simp [putL, ih]
theorem word_Put_l0 (m : Nat) : ∀ (x : Int) (xs : List Int), m ≤ xs.length → xs.length ≤ 8 → Ev (fun k => word_Put.l0 k x xs ((m : Int) - 1)) (putL x m ++ xs.drop m) := by
  induction m with
  | zero =>
    intro x xs _ _
    refine ⟨1, fun k hk => ?_⟩
    obtain ⟨k, rfl⟩ : ∃ j, k = j + 1 := ⟨k - 1, by omega⟩
    simp only [word_Put.l0]; rw [if_neg (by omega)]; simp [putL]
  | succ m ih =>
    intro x xs hm hl
    refine Ev.step (f := fun k => word_Put.l0 k (x / 256) (xs.set m (x % 256)) ((m : Int) - 1)) (fun k => ?_) ?_
    · simp only [word_Put.l0]
      rw [if_pos (by omega), if_pos (by omega), if_pos (by omega), w64 (by omega) (by omega)]
      rw [show ((m + 1 : Nat) : Int) - 1 = (m : Int) from by omega, Int.toNat_natCast]
    · have h := ih (x / 256) (xs.set m (x % 256)) (by simp; omega) (by simp; omega)
      have e : putL (x / 256) m ++ (xs.set m (x % 256)).drop m = putL x (m + 1) ++ xs.drop (m + 1) := by
        rw [List.drop_eq_getElem_cons (by simp; omega)]
        simp only [putL, List.getElem_set_self, List.append_assoc, List.cons_append, List.nil_append]
        congr 2
        rw [List.drop_set_of_lt (by omega)]
      rw [e] at h; exact h
/-- What word.Put answers. -/
theorem word_Put_ev (x n : Int) (h1 : 1 ≤ n) (h8 : n ≤ 8) : Ev (fun k => word_Put.f k x n) (putL x n.toNat) := by
  obtain ⟨m, rfl⟩ := Int.eq_ofNat_of_zero_le (show 0 ≤ n by omega)
  refine Ev.step (f := fun k => word_Put.l0 k x (List.replicate m 0) ((m : Int) - 1)) (fun k => ?_) ?_
  · unfold word_Put.f
    rw [if_neg (by omega), show decide ((m : Int) > 8) = false from decide_eq_false (by omega)]
    simp only [word_Put.j0]
    rw [if_neg (by simp), if_pos (by omega), if_pos (by omega), w64 (by omega) (by omega), Int.toNat_natCast]
  · have h := word_Put_l0 m x (List.replicate m 0) (by simp) (by simp; omega)
    simpa using h
theorem word_Put_none (x n : Int) (h : n < 1 ∨ 8 < n) : Ev (fun k => word_Put.f k x n) [] := by
  refine ⟨1, fun k hk => ?_⟩
  obtain ⟨k, rfl⟩ : ∃ j, k = j + 1 := ⟨k - 1, by omega⟩
  show word_Put.f (k + 1) x n = _
  unfold word_Put.f
  by_cases h1 : n < 1
  · rw [if_pos h1]; simp [word_Put.j0]
  · rw [if_neg h1, show decide (n > 8) = true from decide_eq_true (by omega)]; simp [word_Put.j0]
theorem r01_Put_l1 (d : Nat) : ∀ (x n : Int) (xs : List Int) (i y j : Int) (r : List Int), 0 ≤ y → 0 ≤ j → n ≤ 8 → n - j = d → xs.length ≤ 8 → 0 ≤ i → i ≤ 8 → y < 18446744073709551616 →
    Ev (fun k => inquestref01_Put.l0 k x n (xs ++ [y / 256 ^ d % 256]) (i + 1)) r → Ev (fun k => inquestref01_Put.l1 k x n xs i y j) r := by
  induction d with
  | zero =>
    intro x n xs i y j r hy hj hn hd hl h0 hi hy2 h
    refine Ev.step (fun k => ?_) h
    simp only [inquestref01_Put.l1]
    rw [if_neg (by omega), if_pos (by omega), w64 (by omega) (by omega), Int.tmod_eq_emod_of_nonneg hy, Int.pow_zero, Int.ediv_one, Int.emod_emod_of_dvd _ (by decide)]
  | succ d ih =>
    intro x n xs i y j r hy hj hn hd hl h0 hi hy2 h
    have e : y / 256 ^ (d + 1) = y / 256 / 256 ^ d := by
      rw [Int.pow_succ, Int.mul_comm, ← Int.ediv_ediv_of_nonneg (by decide)]
    rw [e] at h
    refine Ev.step (fun k => ?_) (ih x n xs i (y / 256) (j + 1) r (by omega) (by omega) hn (by omega) hl h0 hi (by omega) h)
    simp only [inquestref01_Put.l1]
    rw [if_pos (by omega), w64 (by omega) (by omega), wu64, Int.tdiv_eq_ediv_of_nonneg hy, Int.emod_eq_of_lt (by omega) (by omega)]
def refPut (x : Int) (n i : Nat) : List Int := (List.range' i (n - i)).map fun j => x / 256 ^ (n - 1 - j) % 256
theorem r01_Put_l0 (d : Nat) : ∀ (x : Int) (n i : Nat) (xs : List Int), 0 ≤ x → x < 18446744073709551616 → n ≤ 8 → n - i = d → i ≤ n → xs.length = i →
    Ev (fun k => inquestref01_Put.l0 k x n xs i) (xs ++ refPut x n i) := by
  induction d with
  | zero =>
    intro x n i xs h0 hx hn hd hi hl
    refine ⟨1, fun k hk => ?_⟩
    obtain ⟨k, rfl⟩ : ∃ j, k = j + 1 := ⟨k - 1, by omega⟩
    simp only [inquestref01_Put.l0]; rw [if_neg (by omega)]; simp [refPut, hd]
  | succ d ih =>
    intro x n i xs h0 hx hn hd hi hl
    have h := ih x n (i + 1) (xs ++ [x / 256 ^ d % 256]) h0 hx hn (by omega) (by omega) (by simp [hl])
    have e : xs ++ [x / 256 ^ d % 256] ++ refPut x n (i + 1) = xs ++ refPut x n i := by
      unfold refPut
      rw [hd, show n - (i + 1) = d from by omega, List.range'_succ, List.map_cons, show n - 1 - i = d from by omega]
      simp
    rw [e] at h
    refine Ev.step (fun k => ?_) (r01_Put_l1 d x n xs i x (i + 1) _ h0 (by omega) (by omega) (by omega) (by omega) (by omega) (by omega) hx (by simpa using h))
    simp only [inquestref01_Put.l0]
    rw [if_pos (by omega), w64 (by omega) (by omega)]
theorem putL_ref (n : Nat) : ∀ (x : Int), putL x n = refPut x n 0 := by
  induction n with
  | zero => intro x; rfl
  | succ n ih =>
    intro x
    rw [putL, ih]
    unfold refPut
    rw [Nat.sub_zero, Nat.sub_zero, List.range'_concat, List.map_append]
    congr 1
    · refine List.map_congr_left fun j hj => ?_
      have : j < n := by simpa using hj
      rw [show n + 1 - 1 - j = (n - 1 - j) + 1 from by omega, Int.pow_succ, Int.mul_comm, ← Int.ediv_ediv_of_nonneg (by decide)]
    · simp
theorem r01_Put_ev (x n : Int) (h0 : 0 ≤ x) (hx : x < 18446744073709551616) (h1 : 1 ≤ n) (h8 : n ≤ 8) : Ev (fun k => inquestref01_Put.f k x n) (putL x n.toNat) := by
  obtain ⟨m, rfl⟩ := Int.eq_ofNat_of_zero_le (show 0 ≤ n by omega)
  have h := r01_Put_l0 m x m 0 [] h0 hx (by omega) (by omega) (by omega) rfl
  rw [List.nil_append, ← putL_ref] at h
  refine Ev.step (fun k => ?_) h
  unfold inquestref01_Put.f
  rw [if_neg (by omega), show decide ((m : Int) > 8) = false from decide_eq_false (by omega)]
  simp only [inquestref01_Put.j0]
  rw [if_neg (by simp)]; rfl
theorem r01_Put_none (x n : Int) (h : n < 1 ∨ 8 < n) : Ev (fun k => inquestref01_Put.f k x n) [] := by
  refine ⟨1, fun k hk => ?_⟩
  obtain ⟨k, rfl⟩ : ∃ j, k = j + 1 := ⟨k - 1, by omega⟩
  show inquestref01_Put.f (k + 1) x n = _
  unfold inquestref01_Put.f
  by_cases h1 : n < 1
  · rw [if_pos h1]; simp [inquestref01_Put.j0]
  · rw [if_neg h1, show decide (n > 8) = true from decide_eq_true (by omega)]; simp [inquestref01_Put.j0]
theorem putL_bytes (n : Nat) : ∀ x : Int, ∀ c ∈ putL x n, 0 ≤ c ∧ c < 256 := by
  induction n with
  | zero => intro x c h; simp [putL] at h
  | succ n ih =>
    intro x c h
    rw [putL, List.mem_append] at h
    rcases h with h | h
    · exact ih _ c h
    · have : c = x % 256 := by simpa using h
      omega
theorem u32_toNat (c : BitVec 32) : IntKind.u32.wrap (c.toNat : Int) = (c.toNat : Int) := by have := c.isLt; rw [wu32]; omega
theorem ofI (c : BitVec 32) : BitVec.ofInt 32 (c.toNat : Int) = c := by rw [BitVec.ofInt_natCast, BitVec.ofNat_toNat, BitVec.setWidth_eq]
theorem bx32 (x y : Int) : Go.bits .xor .u32 x y = ((BitVec.ofInt 32 x ^^^ BitVec.ofInt 32 y).toNat : Int) := by rw [bx_u32, u32_toNat]
theorem ba32 (x y : Int) : Go.bits .and .u32 x y = ((BitVec.ofInt 32 x &&& BitVec.ofInt 32 y).toNat : Int) := by rw [ba_u32, u32_toNat]
/-- One bit of the sum. -/
def crcStep (c : BitVec 32) : BitVec 32 := (c >>> 1) ^^^ (if c.toNat % 2 = 1 then 0xedb88320#32 else 0#32)
/-- So many bits. -/
def crcSteps : Nat → BitVec 32 → BitVec 32
  | 0, c => c
  | n + 1, c => crcSteps n (crcStep c)
/-- A row of bytes. -/
def crcL : List Int → BitVec 32 → BitVec 32
  | [], c => c
  | x :: l, c => crcL l (crcSteps 8 (c ^^^ BitVec.ofInt 32 x))
def sumZ (l : List Int) : Int := ((~~~ (crcL l (BitVec.allOnes 32))).toNat : Int)
theorem sumZ_bd (l : List Int) : 0 ≤ sumZ l ∧ sumZ l < 4294967296 := by unfold sumZ; have := (~~~ (crcL l (BitVec.allOnes 32))).isLt; omega
theorem ofI_half (c : BitVec 32) : BitVec.ofInt 32 ((c.toNat : Int) / 2) = c >>> 1 := by
  apply BitVec.eq_of_toNat_eq
  rw [BitVec.toNat_ofInt, BitVec.toNat_ushiftRight, Nat.shiftRight_eq_div_pow]
  have := c.isLt; omega
theorem crcStep_go (c : BitVec 32) : Go.bits .xor .u32 ((c.toNat : Int) / 2) (Go.bits .and .u32 3988292384 ((-(Go.bits .and .u32 (c.toNat : Int) 1)) % 4294967296)) = ((crcStep c).toNat : Int) := by
  have h1 : Go.bits .and .u32 (c.toNat : Int) 1 = (c.toNat : Int) % 2 := by
    rw [ba32, BitVec.toNat_and, show (BitVec.ofInt 32 1).toNat = 1 from by decide, Nat.and_one_is_mod, ofI]; omega
  rw [h1, bx32, ofI_half]
  unfold crcStep
  by_cases h : c.toNat % 2 = 1
  · rw [if_pos h, show ((c.toNat : Int) % 2) = 1 from by omega, show Go.bits .and .u32 3988292384 (-1 % 4294967296) = 3988292384 from by decide +kernel]; rfl
  · rw [if_neg h, show ((c.toNat : Int) % 2) = 0 from by omega, show Go.bits .and .u32 3988292384 (-0 % 4294967296) = 0 from by decide +kernel]; rfl
theorem frame_Sum_l1 (d : Nat) : ∀ (c : BitVec 32) (l : List Int) (n i : Int) (j : Nat) (r : Int), 8 - j = d → j ≤ 8 →
    Ev (fun k => frame_Sum.l0 k ((crcSteps d c).toNat : Int) l n (wrap64 (i + 1))) r → Ev (fun k => frame_Sum.l1 k (c.toNat : Int) l n i j) r := by
  induction d with
  | zero =>
    intro c l n i j r hd hj h
    refine Ev.step (fun k => ?_) h
    simp only [frame_Sum.l1]; rw [if_neg (by omega)]; rfl
  | succ d ih =>
    intro c l n i j r hd hj h
    refine Ev.step (fun k => ?_) (ih (crcStep c) l n i (j + 1) r (by omega) (by omega) h)
    simp only [frame_Sum.l1]; rw [if_pos (by omega), crcStep_go, w64 (by omega) (by omega)]; rfl
theorem frame_Sum_l0 (d : Nat) : ∀ (l : List Int) (c : BitVec 32) (i : Nat), (∀ x ∈ l, 0 ≤ x ∧ x < 256) → l.length - i = d → i ≤ l.length → l.length ≤ 140737488351232 →
    Ev (fun k => frame_Sum.l0 k (c.toNat : Int) l (l.length : Int) i) (((~~~ (crcL (l.drop i) c)).toNat : Nat) : Int) := by
  induction d with
  | zero =>
    intro l c i hb hd hi hl
    refine Ev.step (f := fun _ => some (((~~~ c).toNat : Nat) : Int)) (fun k => ?_) (by rw [List.drop_of_length_le (by omega)]; exact Ev.now _)
    simp only [frame_Sum.l0]; rw [if_neg (by omega), bx32, ofI, show BitVec.ofInt 32 4294967295 = BitVec.allOnes 32 from by decide, BitVec.allOnes_xor]
  | succ d ih =>
    intro l c i hb hd hi hl
    have hc := hb _ (rd_mem l i (by omega))
    have g := ih l (crcSteps 8 (c ^^^ BitVec.ofInt 32 (rd l i))) (i + 1) hb (by omega) (by omega) hl
    rw [rd_drop l i (by omega)]
    have g2 := frame_Sum_l1 8 (c ^^^ BitVec.ofInt 32 (rd l i)) l (l.length : Int) i 0 _ rfl (by omega) (by rw [w64 (by omega) (by omega)]; exact g)
    refine Ev.step (fun k => ?_) g2
    simp only [frame_Sum.l0]
    rw [if_pos (by omega), if_pos (by omega), if_pos (by omega), Int.emod_eq_of_lt (by omega) (by omega), bx32, ofI]; rfl
theorem frame_Sum_ev (l : List Int) (hb : ∀ x ∈ l, 0 ≤ x ∧ x < 256) (hl : l.length ≤ 140737488351232) : Ev (fun k => frame_Sum.f k l) (sumZ l) := by
  have g := frame_Sum_l0 l.length l (BitVec.allOnes 32) 0 hb rfl (by omega) hl
  exact g
theorem frame_Size_is (n : Int) (h0 : -1099511627776 ≤ n) (h1 : n ≤ 1099511627776) : frame_Size.f n = some (20 + mx n 0) := by
  unfold frame_Size.f mx
  by_cases c : n < 0
  · simp only [c, if_true]; rw [if_neg (by omega), w64 (by omega) (by omega)]; rfl
  · simp only [c, if_false]; rw [if_neg (by omega), w64 (by omega) (by omega)]; congr 1; omega
theorem lives08 : Ev (fun k => inquestlaw08_lives.f k) true := by
  refine Ev.bind (f := fun _ (t : Int) => (if t = 3421780262 then ((frame_Size.f 0).bind fun t116 => (some (t116 == 20))) else (some false))) (frame_Sum_ev [49, 50, 51, 52, 53, 54, 55, 56, 57] (by decide) (by decide)) ?_
  rw [show sumZ [49, 50, 51, 52, 53, 54, 55, 56, 57] = 3421780262 from by decide +kernel, if_pos rfl]
  exact Ev.congr (fun _ => (by decide +kernel : _ = some true)) (Ev.now true)
theorem r08_shifted_l0 (d : Nat) : ∀ (c : BitVec 32) (j : Nat), 8 - j = d → j ≤ 8 → Ev (fun k => inquestref08_shifted.l0 k (c.toNat : Int) j) ((crcSteps d c).toNat : Int) := by
  induction d with
  | zero =>
    intro c j hd hj
    refine Ev.step (f := fun _ => some (c.toNat : Int)) (fun k => ?_) (Ev.now _)
    simp only [inquestref08_shifted.l0]; rw [if_neg (by omega)]
  | succ d ih =>
    intro c j hd hj
    have lt := c.isLt
    refine Ev.step (fun k => ?_) (ih (crcStep c) (j + 1) (by omega) (by omega))
    simp only [inquestref08_shifted.l0]
    rw [if_pos (by omega), Int.tmod_eq_emod_of_nonneg (by omega), Int.tdiv_eq_ediv_of_nonneg (by omega), Int.emod_eq_of_lt (a := (c.toNat : Int) / 2) (by omega) (by omega), w64 (by omega) (by omega)]
    unfold crcStep
    by_cases h : c.toNat % 2 = 1
    · rw [if_pos (by omega), if_pos h, bx32, ofI_half]; rfl
    · rw [if_neg (by omega), if_neg h, ← ofI_half, BitVec.xor_zero, BitVec.toNat_ofInt]
      congr 1; omega
theorem r08_Sum_l0 (d : Nat) : ∀ (l : List Int) (c : BitVec 32) (i : Nat), (∀ x ∈ l, 0 ≤ x ∧ x < 256) → l.length - i = d → i ≤ l.length → l.length ≤ 140737488351232 →
    Ev (fun k => inquestref08_Sum.l0 k l (c.toNat : Int) i) (((~~~ (crcL (l.drop i) c)).toNat : Nat) : Int) := by
  induction d with
  | zero =>
    intro l c i hb hd hi hl
    refine Ev.step (f := fun _ => some (((~~~ c).toNat : Nat) : Int)) (fun k => ?_) (by rw [List.drop_of_length_le (by omega)]; exact Ev.now _)
    simp only [inquestref08_Sum.l0]; rw [if_neg (by omega), bx32, ofI, show BitVec.ofInt 32 4294967295 = BitVec.allOnes 32 from by decide, BitVec.xor_allOnes]
  | succ d ih =>
    intro l c i hb hd hi hl
    have hc := hb _ (rd_mem l i (by omega))
    have g := ih l (crcSteps 8 (c ^^^ BitVec.ofInt 32 (rd l i))) (i + 1) hb (by omega) (by omega) hl
    rw [rd_drop l i (by omega)]
    have g1 := r08_shifted_l0 8 (c ^^^ BitVec.ofInt 32 (rd l i)) 0 rfl (by omega)
    refine Ev.step (f := fun k => (inquestref08_shifted.f k ((c ^^^ BitVec.ofInt 32 (rd l i)).toNat : Int)).bind fun t149 => (inquestref08_Sum.l0 k l t149 (wrap64 ((i : Int) + 1)))) (fun k => ?_) ?_
    · simp only [inquestref08_Sum.l0]
      rw [if_pos (by omega), if_pos (by omega), Int.emod_eq_of_lt (by omega) (by omega), bx32, ofI]
    · refine Ev.bind (f := fun k t149 => (inquestref08_Sum.l0 k l t149 (wrap64 ((i : Int) + 1)))) g1 ?_
      rw [w64 (by omega) (by omega)]; exact g
theorem r08_Sum_ev (l : List Int) (hb : ∀ x ∈ l, 0 ≤ x ∧ x < 256) (hl : l.length ≤ 140737488351232) : Ev (fun k => inquestref08_Sum.f k l) (sumZ l) := by
  have g := r08_Sum_l0 l.length l (BitVec.allOnes 32) 0 hb rfl (by omega) hl
  exact g
/-- A sum as bytes, the lowest first. -/
def four (c : Int) : List Int := [c % 256, (c / 256) % 256, (c / 65536) % 256, (c / 16777216) % 256]
theorem low_is (c : Int) : frame_low.f c = some (four c) := rfl
theorem four_bytes (c : Int) : ∀ x ∈ four c, 0 ≤ x ∧ x < 256 := by
  intro x hx
  simp only [four, List.mem_cons, List.not_mem_nil, or_false] at hx
  omega
def headL (seq n : Int) : List Int := putL n 4 ++ putL seq 8
theorem headL_len (seq n : Int) : (headL seq n).length = 12 := by simp [headL, putL_length]
theorem headL_bytes (seq n : Int) : ∀ c ∈ headL seq n, 0 ≤ c ∧ c < 256 := by
  intro c hc
  rcases List.mem_append.mp hc with h | h
  · exact putL_bytes _ _ c h
  · exact putL_bytes _ _ c h
/-- A frame. -/
def putF (seq : Int) (b : List Int) : List Int := headL seq b.length ++ four (sumZ (headL seq b.length)) ++ b ++ four (sumZ b)
theorem putF_len (seq : Int) (b : List Int) : (putF seq b).length = b.length + 20 := by simp [putF, headL_len, four]; omega
theorem putF_bytes (seq : Int) (b : List Int) (hb : ∀ c ∈ b, 0 ≤ c ∧ c < 256) : ∀ c ∈ putF seq b, 0 ≤ c ∧ c < 256 := by
  intro c hc
  rcases List.mem_append.mp hc with h | h
  · rcases List.mem_append.mp h with h | h
    · rcases List.mem_append.mp h with h | h
      · exact headL_bytes _ _ c h
      · exact four_bytes _ c h
    · exact hb c h
  · exact four_bytes _ c h
def putA (seq : Int) (b : List Int) : List Int × Int := if seq = 0 then ([], 2) else if 16384 < b.length then ([], 5) else (putF seq b, 0)
theorem frame_Put_ev (seq : Int) (b : List Int) (h0 : 0 ≤ seq) (h1 : seq < 18446744073709551616) (hb : ∀ c ∈ b, 0 ≤ c ∧ c < 256) (hl : b.length ≤ 20000) : Ev (fun k => frame_Put.f k seq b) (putA seq b) := by
  unfold putA
  by_cases c : seq = 0
  · rw [if_pos c]
    refine Ev.congr (fun k => ?_) (Ev.now ([], 2))
    unfold frame_Put.f; rw [if_pos c]
  · rw [if_neg c]
    by_cases d : 16384 < b.length
    · rw [if_pos d]
      refine Ev.congr (fun k => ?_) (Ev.now ([], 5))
      unfold frame_Put.f; rw [if_neg c, if_pos (by omega)]
    · rw [if_neg d]
      refine Ev.congr (fun k => (by unfold frame_Put.f; rw [if_neg c, if_neg (by omega), wu64, Int.emod_eq_of_lt (by omega) (by omega)])) ?_
      refine Ev.bind (word_Put_ev b.length 4 (by omega) (by omega)) ?_
      refine Ev.bind (word_Put_ev seq 8 (by omega) (by omega)) ?_
      have l1 := putL_length (b.length : Int) 4
      have l2 := putL_length seq 8
      have lh := headL_len seq b.length
      have q1 : (putL (b.length : Int) 4).length + (putL seq 8).length < 140737488355328 := by omega
      simp only [show (4 : Int).toNat = 4 from rfl, show (8 : Int).toNat = 8 from rfl, q1, if_true, Option.bind_some]
      simp only [show putL (b.length : Int) 4 ++ putL seq 8 = headL seq b.length from rfl]
      refine Ev.bind (frame_Sum_ev (headL seq b.length) (headL_bytes _ _) (by omega)) ?_
      simp only [low_is, Option.bind_some]
      have lf (c : Int) : (four c).length = 4 := rfl
      have l3 : (headL seq b.length ++ four (sumZ (headL seq b.length))).length = 16 := by simp [lh, lf]
      have l4 : (headL seq b.length ++ four (sumZ (headL seq b.length)) ++ b).length = 16 + b.length := by rw [List.length_append, l3]
      refine Ev.congr (f := fun k => (frame_Sum.f k b).bind fun t143 => if (headL seq b.length ++ four (sumZ (headL seq b.length)) ++ b).length + (four t143).length < 140737488355328 then some ((headL seq b.length ++ four (sumZ (headL seq b.length)) ++ b) ++ four t143, 0) else none) (fun k => ?_) ?_
      · rw [if_pos (by rw [lh, lf]; omega), if_pos (by rw [l3]; omega)]
      · refine Ev.bind (frame_Sum_ev b hb (by omega)) ?_
        exact Ev.congr (fun k => if_pos (by rw [l4, lf]; omega)) (Ev.now _)
theorem Four_is (c : Int) (h0 : 0 ≤ c) (h1 : c < 4294967296) : inquestref08_Four.f c = some (four c) := by
  unfold inquestref08_Four.f four
  rw [Int.tmod_eq_emod_of_nonneg h0, Int.tdiv_eq_ediv_of_nonneg h0, Int.tdiv_eq_ediv_of_nonneg h0, Int.tdiv_eq_ediv_of_nonneg h0, Int.emod_eq_of_lt (a := c / 256) (b := 4294967296) (by omega) (by omega), Int.emod_eq_of_lt (a := c / 65536) (b := 4294967296) (by omega) (by omega), Int.emod_eq_of_lt (a := c / 16777216) (b := 4294967296) (by omega) (by omega), Int.emod_emod_of_dvd _ (by decide)]
theorem r08_Put_ev (seq : Int) (b : List Int) (h0 : 0 ≤ seq) (h1 : seq < 18446744073709551616) (hb : ∀ c ∈ b, 0 ≤ c ∧ c < 256) (hl : b.length ≤ 20000) : Ev (fun k => inquestref08_Put.f k seq b) (putA seq b) := by
  unfold putA
  by_cases c : seq = 0
  · rw [if_pos c]
    refine Ev.congr (fun k => ?_) (Ev.now ([], 2))
    unfold inquestref08_Put.f; rw [if_pos c]
  · rw [if_neg c]
    by_cases d : 16384 < b.length
    · rw [if_pos d]
      refine Ev.congr (fun k => ?_) (Ev.now ([], 5))
      unfold inquestref08_Put.f; rw [if_neg c, if_pos (by omega)]
    · rw [if_neg d]
      refine Ev.congr (fun k => (by unfold inquestref08_Put.f; rw [if_neg c, if_neg (by omega), wu64, Int.emod_eq_of_lt (by omega) (by omega)])) ?_
      refine Ev.bind (r01_Put_ev b.length 4 (by omega) (by omega) (by omega) (by omega)) ?_
      refine Ev.bind (r01_Put_ev seq 8 h0 h1 (by omega) (by omega)) ?_
      have l1 := putL_length (b.length : Int) 4
      have l2 := putL_length seq 8
      have lh := headL_len seq b.length
      have q1 : (putL (b.length : Int) 4).length + (putL seq 8).length < 140737488355328 := by omega
      simp only [show (4 : Int).toNat = 4 from rfl, show (8 : Int).toNat = 8 from rfl, q1, if_true, Option.bind_some]
      simp only [show putL (b.length : Int) 4 ++ putL seq 8 = headL seq b.length from rfl, copy01 _ (show (headL seq b.length).length < 140737488355328 by omega), Option.bind_some]
      refine Ev.bind (r08_Sum_ev (headL seq b.length) (headL_bytes _ _) (by omega)) ?_
      have s1 := sumZ_bd (headL seq b.length)
      have s2 := sumZ_bd b
      rw [Four_is _ s1.1 s1.2]
      simp only [Option.bind_some]
      have lf (c : Int) : (four c).length = 4 := rfl
      have l3 : (headL seq b.length ++ four (sumZ (headL seq b.length))).length = 16 := by simp [lh, lf]
      have l4 : (headL seq b.length ++ four (sumZ (headL seq b.length)) ++ b).length = 16 + b.length := by rw [List.length_append, l3]
      refine Ev.congr (f := fun k => (inquestref08_Sum.f k b).bind fun t143 => (inquestref08_Four.f t143).bind fun t181 => if (headL seq b.length ++ four (sumZ (headL seq b.length)) ++ b).length + t181.length < 140737488355328 then some ((headL seq b.length ++ four (sumZ (headL seq b.length)) ++ b) ++ t181, 0) else none) (fun k => ?_) ?_
      · rw [if_pos (by rw [lh, lf]; omega), if_pos (by rw [l3]; omega)]
      · refine Ev.bind (r08_Sum_ev b hb (by omega)) ?_
        rw [Four_is _ s2.1 s2.2]
        exact Ev.congr (fun k => if_pos (by rw [l4, lf]; omega)) (Ev.now _)
theorem FramePuts : inquestlaw08_FramePuts.Pure := by
  intro seq b hs _ hl hb
  obtain ⟨s0, s1⟩ := wf_u64 hs
  have hb := wf_u8s hb
  refine Ev.rounds ?_
  have hc : inquestref01_Cut.f b 20000 = some (b.take 20000) := cut01 b 20000
  have hb' : ∀ c ∈ b.take 20000, 0 ≤ c ∧ c < 256 := fun c hc => hb c (List.mem_of_mem_take hc)
  have l20 : (b.take 20000).length ≤ 20000 := by rw [List.length_take]; omega
  unfold inquestlaw08_FramePuts.f
  rw [hc]
  simp only [Option.bind_some, copy01 (b.take 20000) (by omega)]
  generalize b.take 20000 = l at hb' l20
  refine Ev.bind (frame_Put_ev seq l s0 s1 hb' l20) ?_
  refine Ev.bind (r08_Put_ev seq l s0 s1 hb' l20) ?_
  have lp : (putA seq l).1.length ≤ 20020 := by
    unfold putA; split
    · simp
    · split
      · simp
      · simp only [putF_len]; omega
  refine Ev.bind (same01_t _ _ (by omega) rfl) ?_
  simp only [if_true]
  refine Ev.bind (same01_t l l (by omega) rfl) ?_
  simp only [if_true]
  by_cases c : (putA seq l).2 = 0
  · refine Ev.congr (fun k => if_pos c) ?_
    have e : (putA seq l).1 = putF seq l := by
      unfold putA at c ⊢
      split at c
      · simp at c
      · rename_i h
        rw [if_neg h]
        split at c
        · simp at c
        · rename_i h2; rw [if_neg h2]
    rw [frame_Size_is l.length (by omega) (by omega), e, putF_len]
    simp only [Option.bind_some]
    refine Ev.congr (fun k => ?_) (Ev.bind lives08 (Ev.now true))
    rw [if_pos (by unfold mx; split <;> omega)]
  · exact Ev.congr (fun k => if_neg c) (Ev.bind lives08 (Ev.now _))

end Go.Proofs.Ytcbkkgodlnofmaa.Pure
