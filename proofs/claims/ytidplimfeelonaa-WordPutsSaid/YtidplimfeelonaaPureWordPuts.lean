/- The law WordPuts answers true at every input: word.Put is the document's Put, and its bytes are nobody else's. No condition. -/
import Derived.Test.YtidplimfeelonaaPWordPutsx1
namespace Go.Proofs.Ytidplimfeelonaa.Pure
open Go.RowKit Go.Proofs.Ytidplimfeelonaa.PWordPuts Go.Proofs.YtidplimfeelonaaW.PrintWords Go.Proofs.YtidplimfeelonaaW.PrintLast Go.Proofs.YtidplimfeelonaaW.PrintMore
theorem w64 {i : Int} (h : -9223372036854775808 ≤ i) (h' : i ≤ 9223372036854775807) : wrap64 i = i := by unfold wrap64; omega
theorem wf_u64 {a : Int} (h : (Lit.int .u64 a).wf = true) : 0 ≤ a ∧ a < 18446744073709551616 := by
  simp [Lit.wf, IntKind.min, IntKind.max, IntKind.signed, IntKind.bits] at h; omega
theorem wf_i64 {a : Int} (h : (Lit.int .i64 a).wf = true) : -9223372036854775808 ≤ a ∧ a ≤ 9223372036854775807 := by
  simp [Lit.wf, IntKind.min, IntKind.max, IntKind.signed, IntKind.bits] at h; omega
theorem wf_u32 {a : Int} (h : (Lit.int .u32 a).wf = true) : 0 ≤ a ∧ a < 4294967296 := by
  simp [Lit.wf, IntKind.min, IntKind.max, IntKind.signed, IntKind.bits] at h; omega
theorem wu64 (n : Int) : IntKind.u64.wrap n = n % 18446744073709551616 := by simp [IntKind.wrap, IntKind.bits, IntKind.signed]
theorem wu32 (n : Int) : IntKind.u32.wrap n = n % 4294967296 := by simp [IntKind.wrap, IntKind.bits, IntKind.signed]
theorem wi64 (n : Int) : IntKind.i64.wrap n = wrap64 n := by
  simp [IntKind.wrap, IntKind.bits, IntKind.signed, wrap64]; split <;> omega
/-- The bytes of a number, the highest first. -/
def putL (x : Int) : Nat → List Int
  | 0 => []
  | n + 1 => putL (x / 256) n ++ [x % 256]
theorem putL_length (x : Int) (n : Nat) : (putL x n).length = n := by
  induction n generalizing x with
  | zero => rfl
  | succ n ih => simp [putL, ih]
theorem word_Put_l0 (m : Nat) : ∀ (x : Int) (xs : List Int), m ≤ xs.length → xs.length ≤ 8 → Ev (fun k => word_Put.l0 k x xs ((m : Int) - 1)) (putL x m ++ xs.drop m) := by
  induction m with
  | zero =>
    intro x xs _ _
    refine ⟨1, fun k hk => ?_⟩
    obtain ⟨k, rfl⟩ : ∃ j, k = j + 1 := ⟨k - 1, by omega⟩
    simp only [word_Put.l0]; rw [if_neg (by omega)]; simp [putL]
  | succ m ih =>
    intro x xs hm hl
    refine Ev.step (f := fun k => word_Put.l0 k (x / 256) (xs.set m (x % 256)) ((m : Int) - 1)) (fun k => ?_) ?_
    · simp only [word_Put.l0]
      rw [if_pos (by omega), if_pos (by omega), if_pos (by omega), w64 (by omega) (by omega)]
      rw [show ((m + 1 : Nat) : Int) - 1 = (m : Int) from by omega, Int.toNat_natCast]
    · have h := ih (x / 256) (xs.set m (x % 256)) (by simp; omega) (by simp; omega)
      have e : putL (x / 256) m ++ (xs.set m (x % 256)).drop m = putL x (m + 1) ++ xs.drop (m + 1) := by
        rw [List.drop_eq_getElem_cons (by simp; omega)]
        simp only [putL, List.getElem_set_self, List.append_assoc, List.cons_append, List.nil_append]
        congr 2
        rw [List.drop_set_of_lt (by omega)]
      rw [e] at h; exact h
/-- What word.Put answers. -/
theorem word_Put_ev (x n : Int) (h1 : 1 ≤ n) (h8 : n ≤ 8) : Ev (fun k => word_Put.f k x n) (putL x n.toNat) := by
  obtain ⟨m, rfl⟩ := Int.eq_ofNat_of_zero_le (show 0 ≤ n by omega)
  refine Ev.step (f := fun k => word_Put.l0 k x (List.replicate m 0) ((m : Int) - 1)) (fun k => ?_) ?_
  · unfold word_Put.f
    rw [if_neg (by omega), show decide ((m : Int) > 8) = false from decide_eq_false (by omega)]
    simp only [word_Put.j0]
    rw [if_neg (by simp), if_pos (by omega), if_pos (by omega), w64 (by omega) (by omega), Int.toNat_natCast]
  · have h := word_Put_l0 m x (List.replicate m 0) (by simp) (by simp; omega)
    simpa using h
theorem word_Put_none (x n : Int) (h : n < 1 ∨ 8 < n) : Ev (fun k => word_Put.f k x n) [] := by
  refine ⟨1, fun k hk => ?_⟩
  obtain ⟨k, rfl⟩ : ∃ j, k = j + 1 := ⟨k - 1, by omega⟩
  show word_Put.f (k + 1) x n = _
  unfold word_Put.f
  by_cases h1 : n < 1
  · rw [if_pos h1]; simp [word_Put.j0]
  · rw [if_neg h1, show decide (n > 8) = true from decide_eq_true (by omega)]; simp [word_Put.j0]
theorem lives01 : Ev (fun k => inquestlaw01_lives.f k) true := by
  refine Ev.bind (f := fun _ (t105 : List Int) => (if (t105.length : Int) = 1 then ((word_Zig.f 1).bind fun t108 => (some (t108 == 2))) else (some false))) (word_Put_ev 1 1 (by omega) (by omega)) (Ev.congr (fun _ => (by decide +kernel : _ = some true)) (Ev.now true))
theorem r01_Put_l1 (d : Nat) : ∀ (x n : Int) (xs : List Int) (i y j : Int) (r : List Int), 0 ≤ y → 0 ≤ j → n ≤ 8 → n - j = d → xs.length ≤ 8 → 0 ≤ i → i ≤ 8 → y < 18446744073709551616 →
    Ev (fun k => inquestref01_Put.l0 k x n (xs ++ [y / 256 ^ d % 256]) (i + 1)) r → Ev (fun k => inquestref01_Put.l1 k x n xs i y j) r := by
  induction d with
  | zero =>
    intro x n xs i y j r hy hj hn hd hl h0 hi hy2 h
    refine Ev.step (fun k => ?_) h
    simp only [inquestref01_Put.l1]
    rw [if_neg (by omega), if_pos (by omega), w64 (by omega) (by omega), Int.tmod_eq_emod_of_nonneg hy, Int.pow_zero, Int.ediv_one, Int.emod_emod_of_dvd _ (by decide)]
  | succ d ih =>
    intro x n xs i y j r hy hj hn hd hl h0 hi hy2 h
    have e : y / 256 ^ (d + 1) = y / 256 / 256 ^ d := by
      rw [Int.pow_succ, Int.mul_comm, ← Int.ediv_ediv_of_nonneg (by decide)]
    rw [e] at h
    refine Ev.step (fun k => ?_) (ih x n xs i (y / 256) (j + 1) r (by omega) (by omega) hn (by omega) hl h0 hi (by omega) h)
    simp only [inquestref01_Put.l1]
    rw [if_pos (by omega), w64 (by omega) (by omega), wu64, Int.tdiv_eq_ediv_of_nonneg hy, Int.emod_eq_of_lt (by omega) (by omega)]
def refPut (x : Int) (n i : Nat) : List Int := (List.range' i (n - i)).map fun j => x / 256 ^ (n - 1 - j) % 256
theorem r01_Put_l0 (d : Nat) : ∀ (x : Int) (n i : Nat) (xs : List Int), 0 ≤ x → x < 18446744073709551616 → n ≤ 8 → n - i = d → i ≤ n → xs.length = i →
    Ev (fun k => inquestref01_Put.l0 k x n xs i) (xs ++ refPut x n i) := by
  induction d with
  | zero =>
    intro x n i xs h0 hx hn hd hi hl
    refine ⟨1, fun k hk => ?_⟩
    obtain ⟨k, rfl⟩ : ∃ j, k = j + 1 := ⟨k - 1, by omega⟩
    simp only [inquestref01_Put.l0]; rw [if_neg (by omega)]; simp [refPut, hd]
  | succ d ih =>
    intro x n i xs h0 hx hn hd hi hl
    have h := ih x n (i + 1) (xs ++ [x / 256 ^ d % 256]) h0 hx hn (by omega) (by omega) (by simp [hl])
    have e : xs ++ [x / 256 ^ d % 256] ++ refPut x n (i + 1) = xs ++ refPut x n i := by
      unfold refPut
      rw [hd, show n - (i + 1) = d from by omega, List.range'_succ, List.map_cons, show n - 1 - i = d from by omega]
      simp
    rw [e] at h
    refine Ev.step (fun k => ?_) (r01_Put_l1 d x n xs i x (i + 1) _ h0 (by omega) (by omega) (by omega) (by omega) (by omega) (by omega) hx (by simpa using h))
    simp only [inquestref01_Put.l0]
    rw [if_pos (by omega), w64 (by omega) (by omega)]
theorem putL_ref (n : Nat) : ∀ (x : Int), putL x n = refPut x n 0 := by
  induction n with
  | zero => intro x; rfl
  | succ n ih =>
    intro x
    rw [putL, ih]
    unfold refPut
    rw [Nat.sub_zero, Nat.sub_zero, List.range'_concat, List.map_append]
    congr 1
    · refine List.map_congr_left fun j hj => ?_
      have : j < n := by simpa using hj
      rw [show n + 1 - 1 - j = (n - 1 - j) + 1 from by omega, Int.pow_succ, Int.mul_comm, ← Int.ediv_ediv_of_nonneg (by decide)]
    · simp
theorem r01_Put_ev (x n : Int) (h0 : 0 ≤ x) (hx : x < 18446744073709551616) (h1 : 1 ≤ n) (h8 : n ≤ 8) : Ev (fun k => inquestref01_Put.f k x n) (putL x n.toNat) := by
  obtain ⟨m, rfl⟩ := Int.eq_ofNat_of_zero_le (show 0 ≤ n by omega)
  have h := r01_Put_l0 m x m 0 [] h0 hx (by omega) (by omega) (by omega) rfl
  rw [List.nil_append, ← putL_ref] at h
  refine Ev.step (fun k => ?_) h
  unfold inquestref01_Put.f
  rw [if_neg (by omega), show decide ((m : Int) > 8) = false from decide_eq_false (by omega)]
  simp only [inquestref01_Put.j0]
  rw [if_neg (by simp)]; rfl
theorem r01_Put_none (x n : Int) (h : n < 1 ∨ 8 < n) : Ev (fun k => inquestref01_Put.f k x n) [] := by
  refine ⟨1, fun k hk => ?_⟩
  obtain ⟨k, rfl⟩ : ∃ j, k = j + 1 := ⟨k - 1, by omega⟩
  show inquestref01_Put.f (k + 1) x n = _
  unfold inquestref01_Put.f
  by_cases h1 : n < 1
  · rw [if_pos h1]; simp [inquestref01_Put.j0]
  · rw [if_neg h1, show decide (n > 8) = true from decide_eq_true (by omega)]; simp [inquestref01_Put.j0]
theorem same01_l0 (d : Nat) : ∀ (a b : List Int) (i : Nat), a.length = b.length → a.length ≤ 9223372036854775806 → a.length - i = d → i ≤ a.length →
    Ev (fun k => inquestref01_Same.l0 k a b i) (decide (a.drop i = b.drop i)) := by
  induction d with
  | zero =>
    intro a b i h hl hd hi
    refine ⟨1, fun k hk => ?_⟩
    obtain ⟨k, rfl⟩ : ∃ j, k = j + 1 := ⟨k - 1, by omega⟩
    simp only [inquestref01_Same.l0]; rw [if_neg (by omega), List.drop_of_length_le (by omega), List.drop_of_length_le (by omega)]; simp
  | succ d ih =>
    intro a b i h hl hd hi
    have e : (a.drop i = b.drop i) ↔ (rd a i = rd b i ∧ a.drop (i + 1) = b.drop (i + 1)) := by
      rw [List.drop_eq_getElem_cons (show i < a.length by omega), List.drop_eq_getElem_cons (show i < b.length by omega), List.cons.injEq]
      simp [rd, List.getElem?_eq_getElem (show i < a.length by omega), List.getElem?_eq_getElem (show i < b.length by omega)]
    by_cases c : rd a i = rd b i
    · have h' := ih a b (i + 1) h hl (by omega) (by omega)
      rw [show decide (a.drop i = b.drop i) = decide (a.drop (i + 1) = b.drop (i + 1)) from by simp [e, c]]
      refine Ev.step (fun k => ?_) h'
      simp only [inquestref01_Same.l0]
      rw [if_pos (by omega), if_pos (by omega), if_pos (by omega), if_pos c, w64 (by omega) (by omega)]; rfl
    · refine ⟨1, fun k hk => ?_⟩
      obtain ⟨k, rfl⟩ : ∃ j, k = j + 1 := ⟨k - 1, by omega⟩
      simp only [inquestref01_Same.l0]
      rw [if_pos (by omega), if_pos (by omega), if_pos (by omega), if_neg c]; simp [e, c]
/-- What Same answers: whether the lists are the same. -/
theorem same01 (a b : List Int) (hl : a.length ≤ 9223372036854775806) : Ev (fun k => inquestref01_Same.f k a b) (decide (a = b)) := by
  by_cases h : a.length = b.length
  · have h' := same01_l0 a.length a b 0 h hl (by omega) (by omega)
    simp only [List.drop_zero] at h'
    refine Ev.congr (fun k => ?_) h'
    unfold inquestref01_Same.f
    rw [if_pos (by omega)]; rfl
  · have n : a ≠ b := fun e => h (by rw [e])
    rw [decide_eq_false n]
    refine Ev.congr (fun k => ?_) (Ev.now false)
    unfold inquestref01_Same.f
    rw [if_neg (by omega)]
theorem same01_t (a b : List Int) (hl : a.length ≤ 9223372036854775806) (h : a = b) : Ev (fun k => inquestref01_Same.f k a b) true := by
  have := same01 a b hl; rwa [decide_eq_true h] at this
theorem puts_l0 (d : Nat) : ∀ (a b c : List Int) (i : Nat), a.length ≤ 8 → a.length - i = d → i ≤ a.length → b = c → b.length ≤ 8 →
    Ev (fun k => inquestlaw01_WordPuts.l0 k a b c i) true := by
  induction d with
  | zero =>
    intro a b c i hl hd hi hbc hb
    refine Ev.step (f := fun k => (inquestref01_Same.f k b c).bind fun t126 => (if t126 = true then ((inquestlaw01_lives.f k).bind fun t127 => (some t127)) else (some false))) (fun k => ?_) ?_
    · simp only [inquestlaw01_WordPuts.l0]
      rw [if_neg (by omega)]
    · refine Ev.bind (f := fun k t126 => (if t126 = true then ((inquestlaw01_lives.f k).bind fun t127 => (some t127)) else (some false))) (same01_t b c (by omega) hbc) ?_
      exact Ev.congr (fun k => if_pos rfl) (Ev.bind lives01 (Ev.now _))
  | succ d ih =>
    intro a b c i hl hd hi hbc hb
    refine Ev.step (fun k => ?_) (ih (a.set i ((rd a i + 1) % 256)) b c (i + 1) (by simpa using hl) (by simp; omega) (by simp; omega) hbc hb)
    simp only [inquestlaw01_WordPuts.l0]
    rw [if_pos (by omega), if_pos (by omega), w64 (by omega) (by omega), Int.toNat_natCast]; rfl
theorem WordPuts : inquestlaw01_WordPuts.Pure := by
  intro x n hx hn
  obtain ⟨h0, hx⟩ := wf_u64 hx
  refine Ev.rounds ?_
  have main : ∀ r : List Int, r.length ≤ 8 → Ev (fun k => word_Put.f k x n) r → Ev (fun k => inquestref01_Put.f k x n) r → Ev (fun k => inquestlaw01_WordPuts.f k x n) true := by
    intro r hl h1 h2
    refine Ev.bind (f := fun k t114 => (word_Put.f k x n).bind fun t117 => ((inquestref01_Put.f k x n).bind fun t120 => ((inquestref01_Same.f k t114 t120).bind fun t123 => (if t123 = true then (inquestlaw01_WordPuts.l0 k t114 t117 t120 0) else (some false))))) h1 ?_
    refine Ev.bind (f := fun k t117 => ((inquestref01_Put.f k x n).bind fun t120 => ((inquestref01_Same.f k r t120).bind fun t123 => (if t123 = true then (inquestlaw01_WordPuts.l0 k r t117 t120 0) else (some false))))) h1 ?_
    refine Ev.bind (f := fun k t120 => ((inquestref01_Same.f k r t120).bind fun t123 => (if t123 = true then (inquestlaw01_WordPuts.l0 k r r t120 0) else (some false)))) h2 ?_
    refine Ev.bind (f := fun k t123 => (if t123 = true then (inquestlaw01_WordPuts.l0 k r r r 0) else (some false))) (same01_t r r (by omega) rfl) ?_
    exact Ev.congr (fun k => if_pos rfl) (puts_l0 r.length r r r 0 hl (by omega) (by omega) rfl hl)
  by_cases h : n < 1 ∨ 8 < n
  · exact main [] (by simp) (word_Put_none x n h) (r01_Put_none x n h)
  · exact main _ (by rw [putL_length]; omega) (word_Put_ev x n (by omega) (by omega)) (r01_Put_ev x n h0 hx (by omega) (by omega))

end Go.Proofs.Ytidplimfeelonaa.Pure
