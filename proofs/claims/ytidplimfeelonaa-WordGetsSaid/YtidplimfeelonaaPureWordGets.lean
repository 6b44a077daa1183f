/- The law WordGets answers true at every input: word.Get tells the document's number, or that there is none. No condition. The printed texts of WordGets, WordVars, WordOne, WordBack: print.sh with HANDBACK=share in its environment. -/
import Derived.Test.YtidplimfeelonaaPWordGetsx2
namespace Go.Proofs.Ytidplimfeelonaa.Pure
open Go.RowKit Go.Proofs.Ytidplimfeelonaa.PWordGets Go.Proofs.YtidplimfeelonaaW.PrintWords Go.Proofs.YtidplimfeelonaaW.PrintLast Go.Proofs.YtidplimfeelonaaW.PrintMore
set_option linter.unusedVariables false
set_option linter.unusedSimpArgs false
theorem w64 {i : Int} (h : -9223372036854775808 ≤ i) (h' : i ≤ 9223372036854775807) : wrap64 i = i := by unfold wrap64; omega
theorem wf_u64 {a : Int} (h : (Lit.int .u64 a).wf = true) : 0 ≤ a ∧ a < 18446744073709551616 := by
  simp [Lit.wf, IntKind.min, IntKind.max, IntKind.signed, IntKind.bits] at h; omega
theorem wf_i64 {a : Int} (h : (Lit.int .i64 a).wf = true) : -9223372036854775808 ≤ a ∧ a ≤ 9223372036854775807 := by
  simp [Lit.wf, IntKind.min, IntKind.max, IntKind.signed, IntKind.bits] at h; omega
theorem wf_u32 {a : Int} (h : (Lit.int .u32 a).wf = true) : 0 ≤ a ∧ a < 4294967296 := by
  simp [Lit.wf, IntKind.min, IntKind.max, IntKind.signed, IntKind.bits] at h; omega
theorem wu64 (n : Int) : IntKind.u64.wrap n = n % 18446744073709551616 := by simp [IntKind.wrap, IntKind.bits, IntKind.signed]
theorem wu32 (n : Int) : IntKind.u32.wrap n = n % 4294967296 := by simp [IntKind.wrap, IntKind.bits, IntKind.signed]
theorem wi64 (n : Int) : IntKind.i64.wrap n = wrap64 n := by
  simp [IntKind.wrap, IntKind.bits, IntKind.signed, wrap64]; split <;> omega
theorem bx_u64 (x y : Int) : Go.bits .xor .u64 x y = IntKind.u64.wrap ((BitVec.ofInt 64 x ^^^ BitVec.ofInt 64 y).toNat : Int) := rfl
theorem bx_i64 (x y : Int) : Go.bits .xor .i64 x y = IntKind.i64.wrap ((BitVec.ofInt 64 x ^^^ BitVec.ofInt 64 y).toNat : Int) := rfl
theorem ba_u64 (x y : Int) : Go.bits .and .u64 x y = IntKind.u64.wrap ((BitVec.ofInt 64 x &&& BitVec.ofInt 64 y).toNat : Int) := rfl
theorem bo_u64 (x y : Int) : Go.bits .or .u64 x y = IntKind.u64.wrap ((BitVec.ofInt 64 x ||| BitVec.ofInt 64 y).toNat : Int) := rfl
theorem bx_u32 (x y : Int) : Go.bits .xor .u32 x y = IntKind.u32.wrap ((BitVec.ofInt 32 x ^^^ BitVec.ofInt 32 y).toNat : Int) := rfl
theorem ba_u32 (x y : Int) : Go.bits .and .u32 x y = IntKind.u32.wrap ((BitVec.ofInt 32 x &&& BitVec.ofInt 32 y).toNat : Int) := rfl
theorem bo_u32 (x y : Int) : Go.bits .or .u32 x y = IntKind.u32.wrap ((BitVec.ofInt 32 x ||| BitVec.ofInt 32 y).toNat : Int) := rfl
theorem bo_u8 (x y : Int) : Go.bits .or .u8 x y = IntKind.u8.wrap ((BitVec.ofInt 8 x ||| BitVec.ofInt 8 y).toNat : Int) := rfl
theorem ba_u8 (x y : Int) : Go.bits .and .u8 x y = IntKind.u8.wrap ((BitVec.ofInt 8 x &&& BitVec.ofInt 8 y).toNat : Int) := rfl
/-- The bytes of a number, the highest first. -/
def putL (x : Int) : Nat → List Int
  | 0 => []
  | n + 1 => putL (x / 256) n ++ [x % 256]
theorem putL_length (x : Int) (n : Nat) : (putL x n).length = n := by
  induction n generalizing x with
  | zero => rfl
  | succ n ih => simp [putL, ih]
theorem word_Put_l0 (m : Nat) : ∀ (x : Int) (xs : List Int), m ≤ xs.length → xs.length ≤ 8 → Ev (fun k => word_Put.l0 k x xs ((m : Int) - 1)) (putL x m ++ xs.drop m) := by
  induction m with
  | zero =>
    intro x xs _ _
    refine ⟨1, fun k hk => ?_⟩
    obtain ⟨k, rfl⟩ : ∃ j, k = j + 1 := ⟨k - 1, by omega⟩
    simp only [word_Put.l0]; rw [if_neg (by omega)]; simp [putL]
  | succ m ih =>
    intro x xs hm hl
    refine Ev.step (f := fun k => word_Put.l0 k (x / 256) (xs.set m (x % 256)) ((m : Int) - 1)) (fun k => ?_) ?_
    · simp only [word_Put.l0]
      rw [if_pos (by omega), if_pos (by omega), if_pos (by omega), w64 (by omega) (by omega)]
      rw [show ((m + 1 : Nat) : Int) - 1 = (m : Int) from by omega, Int.toNat_natCast]
    · have h := ih (x / 256) (xs.set m (x % 256)) (by simp; omega) (by simp; omega)
      have e : putL (x / 256) m ++ (xs.set m (x % 256)).drop m = putL x (m + 1) ++ xs.drop (m + 1) := by
        rw [List.drop_eq_getElem_cons (by simp; omega)]
        simp only [putL, List.getElem_set_self, List.append_assoc, List.cons_append, List.nil_append]
        congr 2
        rw [List.drop_set_of_lt (by omega)]
      rw [e] at h; exact h
/-- What word.Put answers. -/
theorem word_Put_ev (x n : Int) (h1 : 1 ≤ n) (h8 : n ≤ 8) : Ev (fun k => word_Put.f k x n) (putL x n.toNat) := by
  obtain ⟨m, rfl⟩ := Int.eq_ofNat_of_zero_le (show 0 ≤ n by omega)
  refine Ev.step (f := fun k => word_Put.l0 k x (List.replicate m 0) ((m : Int) - 1)) (fun k => ?_) ?_
  · unfold word_Put.f
    rw [if_neg (by omega), show decide ((m : Int) > 8) = false from decide_eq_false (by omega)]
    simp only [word_Put.j0]
    rw [if_neg (by simp), if_pos (by omega), if_pos (by omega), w64 (by omega) (by omega), Int.toNat_natCast]
  · have h := word_Put_l0 m x (List.replicate m 0) (by simp) (by simp; omega)
    simpa using h
theorem word_Put_none (x n : Int) (h : n < 1 ∨ 8 < n) : Ev (fun k => word_Put.f k x n) [] := by
  refine ⟨1, fun k hk => ?_⟩
  obtain ⟨k, rfl⟩ : ∃ j, k = j + 1 := ⟨k - 1, by omega⟩
  show word_Put.f (k + 1) x n = _
  unfold word_Put.f
  by_cases h1 : n < 1
  · rw [if_pos h1]; simp [word_Put.j0]
  · rw [if_neg h1, show decide (n > 8) = true from decide_eq_true (by omega)]; simp [word_Put.j0]
theorem lives01 : Ev (fun k => inquestlaw01_lives.f k) true := by
  refine Ev.bind (f := fun _ (t105 : List Int) => (if (t105.length : Int) = 1 then ((word_Zig.f 1).bind fun t108 => (some (t108 == 2))) else (some false))) (word_Put_ev 1 1 (by omega) (by omega)) (Ev.congr (fun _ => (by decide +kernel : _ = some true)) (Ev.now true))
theorem same01_l0 (d : Nat) : ∀ (a b : List Int) (i : Nat), a.length = b.length → a.length ≤ 9223372036854775806 → a.length - i = d → i ≤ a.length →
    Ev (fun k => inquestref01_Same.l0 k a b i) (decide (a.drop i = b.drop i)) := by
  induction d with
  | zero =>
    intro a b i h hl hd hi
    refine ⟨1, fun k hk => ?_⟩
    obtain ⟨k, rfl⟩ : ∃ j, k = j + 1 := ⟨k - 1, by omega⟩
    simp only [inquestref01_Same.l0]; rw [if_neg (by omega), List.drop_of_length_le (by omega), List.drop_of_length_le (by omega)]; simp
  | succ d ih =>
    intro a b i h hl hd hi
    have e : (a.drop i = b.drop i) ↔ (rd a i = rd b i ∧ a.drop (i + 1) = b.drop (i + 1)) := by
      rw [List.drop_eq_getElem_cons (show i < a.length by omega), List.drop_eq_getElem_cons (show i < b.length by omega), List.cons.injEq]
      simp [rd, List.getElem?_eq_getElem (show i < a.length by omega), List.getElem?_eq_getElem (show i < b.length by omega)]
    by_cases c : rd a i = rd b i
    · have h' := ih a b (i + 1) h hl (by omega) (by omega)
      rw [show decide (a.drop i = b.drop i) = decide (a.drop (i + 1) = b.drop (i + 1)) from by simp [e, c]]
      refine Ev.step (fun k => ?_) h'
      simp only [inquestref01_Same.l0]
      rw [if_pos (by omega), if_pos (by omega), if_pos (by omega), if_pos c, w64 (by omega) (by omega)]; rfl
    · refine ⟨1, fun k hk => ?_⟩
      obtain ⟨k, rfl⟩ : ∃ j, k = j + 1 := ⟨k - 1, by omega⟩
      simp only [inquestref01_Same.l0]
      rw [if_pos (by omega), if_pos (by omega), if_pos (by omega), if_neg c]; simp [e, c]
/-- What Same answers: whether the lists are the same. -/
theorem same01 (a b : List Int) (hl : a.length ≤ 9223372036854775806) : Ev (fun k => inquestref01_Same.f k a b) (decide (a = b)) := by
  by_cases h : a.length = b.length
  · have h' := same01_l0 a.length a b 0 h hl (by omega) (by omega)
    simp only [List.drop_zero] at h'
    refine Ev.congr (fun k => ?_) h'
    unfold inquestref01_Same.f
    rw [if_pos (by omega)]; rfl
  · have n : a ≠ b := fun e => h (by rw [e])
    rw [decide_eq_false n]
    refine Ev.congr (fun k => ?_) (Ev.now false)
    unfold inquestref01_Same.f
    rw [if_neg (by omega)]
theorem same01_t (a b : List Int) (hl : a.length ≤ 9223372036854775806) (h : a = b) : Ev (fun k => inquestref01_Same.f k a b) true := by
  have := same01 a b hl; rwa [decide_eq_true h] at this
theorem rd_drop (l : List Int) (i : Nat) (h : i < l.length) : l.drop i = rd l i :: l.drop (i + 1) := by
  rw [List.drop_eq_getElem_cons h]; congr 1; simp [rd, List.getElem?_eq_getElem h]
theorem rd_mem (l : List Int) (i : Nat) (h : i < l.length) : rd l i ∈ l := by
  simp [rd, List.getElem?_eq_getElem h]
theorem cut01 (l : List Int) (n : Nat) : inquestref01_Cut.f l n = some (l.take n) := by
  unfold inquestref01_Cut.f
  by_cases c : l.length ≤ n
  · rw [if_neg (by omega), List.take_of_length_le c]
  · rw [if_pos (by omega), if_pos (by omega), if_pos (by omega), Int.toNat_natCast]
theorem copy01 (l : List Int) (h : l.length < 140737488355328) : inquestref01_Copy.f l = some l := by
  unfold inquestref01_Copy.f
  rw [if_pos (by simpa using h)]; rfl
theorem wf_u8 {x : Int} (h : (Lit.int .u8 x).wf = true) : 0 ≤ x ∧ x < 256 := by
  simp [Lit.wf, IntKind.min, IntKind.max, IntKind.signed, IntKind.bits] at h; omega
theorem wf_u8s {l : List Int} (h : ∀ x ∈ l, (Lit.int .u8 x).wf = true) : ∀ x ∈ l, 0 ≤ x ∧ x < 256 := fun x hx => wf_u8 (h x hx)
/-- The number that bytes are, the highest first, behind a number. -/
def getL (x : Int) : List Int → Int
  | [] => x
  | c :: l => getL (x * 256 + c) l
theorem getL_bd : ∀ (l : List Int) (x : Int), 0 ≤ x → (∀ c ∈ l, 0 ≤ c ∧ c < 256) → 0 ≤ getL x l ∧ getL x l < (x + 1) * 256 ^ l.length
  | [], x, h, _ => by simp [getL]; omega
  | c :: l, x, h, hb => by
    have hc := hb c (by simp)
    obtain ⟨i, j⟩ := getL_bd l (x * 256 + c) (by omega) (fun d hd => hb d (by simp [hd]))
    refine ⟨i, Int.lt_of_lt_of_le j ?_⟩
    rw [List.length_cons, Int.pow_succ, show (256 : Int) ^ l.length * 256 = 256 * 256 ^ l.length from Int.mul_comm _ _, ← Int.mul_assoc]
    exact Int.mul_le_mul_of_nonneg_right (by omega) (Int.le_of_lt (Int.pow_pos (by decide)))
theorem pow256_le (n : Nat) (h : n ≤ 8) : (256 : Int) ^ n ≤ 18446744073709551616 := by
  have h2 : (256 : Int) ^ n * 256 ^ (8 - n) = 18446744073709551616 := by rw [← Int.pow_add, show n + (8 - n) = 8 from by omega]; decide
  have h3 : (0 : Int) < 256 ^ (8 - n) := Int.pow_pos (by decide)
  have h4 : (0 : Int) < 256 ^ n := Int.pow_pos (by decide)
  calc (256 : Int) ^ n = 256 ^ n * 1 := by omega
    _ ≤ 256 ^ n * 256 ^ (8 - n) := Int.mul_le_mul_of_nonneg_left (by omega) (by omega)
    _ = _ := h2
theorem or_byte (x c : Int) (h0 : 0 ≤ x) (h1 : x * 256 < 18446744073709551616) (c0 : 0 ≤ c) (c1 : c < 256) : Go.bits .or .u64 (x * 256) c = x * 256 + c := by
  obtain ⟨x, rfl⟩ := Int.eq_ofNat_of_zero_le h0
  obtain ⟨c, rfl⟩ := Int.eq_ofNat_of_zero_le c0
  have e : ((x : Int) * 256) = ((x * 256 : Nat) : Int) := by omega
  rw [e, bo_u64, BitVec.toNat_or, BitVec.toNat_ofInt, BitVec.toNat_ofInt, wu64,
    show (((x * 256 : Nat) : Int) % ((2 ^ 64 : Nat) : Int)).toNat = 2 ^ 8 * x from by omega, show ((c : Int) % ((2 ^ 64 : Nat) : Int)).toNat = c from by omega, ← Nat.two_pow_add_eq_or_of_lt (by omega)]
  omega
theorem word_Get_l0 (d : Nat) : ∀ (l : List Int) (x : Int) (i : Nat), (∀ c ∈ l, 0 ≤ c ∧ c < 256) → l.length - i = d → i ≤ l.length → l.length ≤ 8 → 0 ≤ x → x < 256 ^ i →
    Ev (fun k => word_Get.l0 k x l (l.length : Int) i) (getL x (l.drop i), true) := by
  induction d with
  | zero =>
    intro l x i hb hd hi hl h0 hx
    refine ⟨1, fun k hk => ?_⟩
    obtain ⟨k, rfl⟩ : ∃ j, k = j + 1 := ⟨k - 1, by omega⟩
    simp only [word_Get.l0]; rw [if_neg (by omega), List.drop_of_length_le (by omega)]; rfl
  | succ d ih =>
    intro l x i hb hd hi hl h0 hx
    have hc := hb _ (rd_mem l i (by omega))
    have e : (256 : Int) ^ (i + 1) = 256 ^ i * 256 := Int.pow_succ ..
    have p := pow256_le (i + 1) (by omega)
    have g := ih l (x * 256 + rd l i) (i + 1) hb (by omega) (by omega) hl (by omega) (by omega)
    rw [rd_drop l i (by omega)]
    refine Ev.step (fun k => ?_) g
    simp only [word_Get.l0]
    rw [if_pos (by omega), if_pos (by omega), if_pos (by omega), w64 (by omega) (by omega), wu64 (x * 256), wu64 (rd l i), Int.emod_eq_of_lt (a := x * 256) (by omega) (by omega), Int.emod_eq_of_lt (a := rd l i) (by omega) (by omega), or_byte x _ h0 (by omega) hc.1 hc.2]
    rfl
/-- What Get answers. -/
def getA (l : List Int) : Int × Bool := if l.length < 1 ∨ 8 < l.length then (0, false) else (getL 0 l, true)
theorem word_Get_ev (l : List Int) (hb : ∀ c ∈ l, 0 ≤ c ∧ c < 256) : Ev (fun k => word_Get.f k l) (getA l) := by
  unfold getA
  have no : ∀ b : Bool, b = true → Ev (fun k => word_Get.j0 k l b) (0, false) := fun b hb => Ev.step (f := fun _ => some (0, false)) (fun k => by subst hb; simp [word_Get.j0]) (Ev.now _)
  by_cases h1 : l.length < 1
  · rw [if_pos (by omega)]
    exact Ev.congr (fun k => by unfold word_Get.f; rw [if_pos (by omega)]) (no true rfl)
  · by_cases h8 : 8 < l.length
    · rw [if_pos (by omega)]
      exact Ev.congr (fun k => by unfold word_Get.f; rw [if_neg (by omega)]) (no _ (decide_eq_true (by omega)))
    · rw [if_neg (by omega)]
      refine Ev.step (fun k => ?_) (word_Get_l0 l.length l 0 0 hb (by omega) (by omega) (by omega) (by omega) (by decide))
      unfold word_Get.f
      rw [if_neg (by omega), show decide ((l.length : Int) > 8) = false from decide_eq_false (by omega)]
      simp only [word_Get.j0]; rw [if_neg (by simp)]; rfl
theorem r01_Get_l0 (d : Nat) : ∀ (l : List Int) (x : Int) (i : Nat), (∀ c ∈ l, 0 ≤ c ∧ c < 256) → l.length - i = d → i ≤ l.length → l.length ≤ 8 → 0 ≤ x → x < 256 ^ i →
    Ev (fun k => inquestref01_Get.l0 k l x i) (getL x (l.drop i), true) := by
  induction d with
  | zero =>
    intro l x i hb hd hi hl h0 hx
    refine ⟨1, fun k hk => ?_⟩
    obtain ⟨k, rfl⟩ : ∃ j, k = j + 1 := ⟨k - 1, by omega⟩
    simp only [inquestref01_Get.l0]; rw [if_neg (by omega), List.drop_of_length_le (by omega)]; rfl
  | succ d ih =>
    intro l x i hb hd hi hl h0 hx
    have hc := hb _ (rd_mem l i (by omega))
    have e : (256 : Int) ^ (i + 1) = 256 ^ i * 256 := Int.pow_succ ..
    have p := pow256_le (i + 1) (by omega)
    have g := ih l (x * 256 + rd l i) (i + 1) hb (by omega) (by omega) hl (by omega) (by omega)
    rw [rd_drop l i (by omega)]
    refine Ev.step (fun k => ?_) g
    simp only [inquestref01_Get.l0]
    rw [if_pos (by omega), if_pos (by omega), w64 (by omega) (by omega), wu64, wu64 (256 * x), wu64 (rd l i), Int.mul_comm 256 x, Int.emod_eq_of_lt (a := x * 256) (by omega) (by omega), Int.emod_eq_of_lt (a := rd l i) (by omega) (by omega), Int.emod_eq_of_lt (by omega) (by omega)]
    rfl
theorem r01_Get_ev (l : List Int) (hb : ∀ c ∈ l, 0 ≤ c ∧ c < 256) : Ev (fun k => inquestref01_Get.f k l) (getA l) := by
  unfold getA
  have no : ∀ b : Bool, b = true → Ev (fun k => inquestref01_Get.j0 k l b) (0, false) := fun b hb => Ev.step (f := fun _ => some (0, false)) (fun k => by subst hb; simp [inquestref01_Get.j0]) (Ev.now _)
  by_cases h1 : l.length < 1
  · rw [if_pos (by omega)]
    exact Ev.congr (fun k => by unfold inquestref01_Get.f; rw [if_pos (by omega)]) (no true rfl)
  · by_cases h8 : 8 < l.length
    · rw [if_pos (by omega)]
      exact Ev.congr (fun k => by unfold inquestref01_Get.f; rw [if_neg (by omega)]) (no _ (decide_eq_true (by omega)))
    · rw [if_neg (by omega)]
      refine Ev.step (fun k => ?_) (r01_Get_l0 l.length l 0 0 hb (by omega) (by omega) (by omega) (by omega) (by decide))
      unfold inquestref01_Get.f
      rw [if_neg (by omega), show decide ((l.length : Int) > 8) = false from decide_eq_false (by omega)]
      simp only [inquestref01_Get.j0]; rw [if_neg (by simp)]; rfl
theorem WordGets : inquestlaw01_WordGets.Pure := by
  intro b _ hl hb
  have hb := wf_u8s hb
  refine Ev.rounds ?_
  have hc : inquestref01_Cut.f b 20 = some (b.take 20) := cut01 b 20
  have hb' : ∀ c ∈ b.take 20, 0 ≤ c ∧ c < 256 := fun c hc => hb c (List.mem_of_mem_take hc)
  have l20 : (b.take 20).length ≤ 20 := by rw [List.length_take]; omega
  unfold inquestlaw01_WordGets.f
  rw [hc]
  simp only [Option.bind_some, copy01 (b.take 20) (by omega)]
  generalize b.take 20 = l at hb' l20
  refine Ev.bind (f := fun k bt127 => ((inquestref01_Get.f k l).bind fun bt129 => (if bt127.1 = bt129.1 then (if (bt127.2 == bt129.2) = true then ((inquestref01_Same.f k l l).bind fun t131 => (if t131 = true then ((inquestlaw01_lives.f k).bind fun t132 => (some t132)) else (some false))) else (some false)) else (some false)))) (word_Get_ev l hb') ?_
  refine Ev.bind (f := fun k bt129 => (if (getA l).1 = bt129.1 then (if ((getA l).2 == bt129.2) = true then ((inquestref01_Same.f k l l).bind fun t131 => (if t131 = true then ((inquestlaw01_lives.f k).bind fun t132 => (some t132)) else (some false))) else (some false)) else (some false))) (r01_Get_ev l hb') ?_
  simp only [if_true, beq_self_eq_true]
  refine Ev.bind (f := fun k t131 => (if t131 = true then ((inquestlaw01_lives.f k).bind fun t132 => (some t132)) else (some false))) (same01_t l l (by omega) rfl) ?_
  simp only [if_true]
  exact Ev.bind lives01 (Ev.now _)

end Go.Proofs.Ytidplimfeelonaa.Pure
