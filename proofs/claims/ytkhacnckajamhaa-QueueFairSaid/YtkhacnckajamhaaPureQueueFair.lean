/- The law QueueFair answers true at every input: who wants a turn all the time has one within as many turns as there are places. No condition. The printed texts and the row beside it were written by wip/bin/pp.sh of this session. -/
import Derived.Test.YtkhacnckajamhaaPQueueFairx2
namespace Go.Proofs.Ytkhacnckajamhaa.Pure
open Go.RowKit Go.Proofs.Ytkhacnckajamhaa.PQueueFair Go.Proofs.YtkhacnckajamhaaW.PrintWords Go.Proofs.YtkhacnckajamhaaW.PrintLast Go.Proofs.YtkhacnckajamhaaW.PrintMore
set_option linter.unusedVariables false
set_option linter.unusedSimpArgs false
theorem w64 {i : Int} (h : -9223372036854775808 ≤ i) (h' : i ≤ 9223372036854775807) : wrap64 i = i := by unfold wrap64; omega
theorem wf_u64 {a : Int} (h : (Lit.int .u64 a).wf = true) : 0 ≤ a ∧ a < 18446744073709551616 := by
  simp [Lit.wf, IntKind.min, IntKind.max, IntKind.signed, IntKind.bits] at h; omega
theorem wf_i64 {a : Int} (h : (Lit.int .i64 a).wf = true) : -9223372036854775808 ≤ a ∧ a ≤ 9223372036854775807 := by
  simp [Lit.wf, IntKind.min, IntKind.max, IntKind.signed, IntKind.bits] at h; omega
theorem wf_u32 {a : Int} (h : (Lit.int .u32 a).wf = true) : 0 ≤ a ∧ a < 4294967296 := by
  simp [Lit.wf, IntKind.min, IntKind.max, IntKind.signed, IntKind.bits] at h; omega
theorem wu64 (n : Int) : IntKind.u64.wrap n = n % 18446744073709551616 := by simp [IntKind.wrap, IntKind.bits, IntKind.signed]
theorem wu32 (n : Int) : IntKind.u32.wrap n = n % 4294967296 := by simp [IntKind.wrap, IntKind.bits, IntKind.signed]
theorem wi64 (n : Int) : IntKind.i64.wrap n = wrap64 n := by
  simp [IntKind.wrap, IntKind.bits, IntKind.signed, wrap64]; split <;> omega
theorem least01 (a lo hi : Int) (h : lo ≤ hi) : ∃ r, inquestref01_Least.f a lo hi = some r ∧ lo ≤ r ∧ r ≤ hi := by
  unfold inquestref01_Least.f
  by_cases c : a < lo
  · exact ⟨lo, by rw [if_pos c], by omega, by omega⟩
  · rw [if_neg c]
    by_cases d : a > hi
    · exact ⟨hi, by rw [if_pos d], by omega, by omega⟩
    · exact ⟨a, by rw [if_neg d], by omega, by omega⟩
/-- The first place from i on that wants. -/
def sc : List Bool → Nat → Option Nat
  | [], _ => none
  | b :: t, i => if b = true then some i else sc t (i + 1)
def told : Option Nat → Int × Bool
  | some i => ((i : Int), true)
  | none => (0, false)
theorem sc_app (p q : List Bool) : ∀ i, sc (p ++ q) i = match sc p i with | some j => some j | none => sc q (i + p.length) := by
  induction p with
  | nil => intro i; simp [sc]
  | cons b t ih =>
    intro i
    rw [List.cons_append, sc, sc]
    by_cases h : b = true
    · rw [if_pos h, if_pos h]
    · rw [if_neg h, if_neg h, ih, List.length_cons]; rw [show i + 1 + t.length = i + (t.length + 1) from by omega]
theorem drop_b {l : List Bool} {i : Nat} (h : i < l.length) : l.drop i = rdOf false l (i : Int) :: l.drop (i + 1) := by
  rw [List.drop_eq_getElem_cons h]; congr 1; simp [rdOf, h]
/-- Whose turn it is, behind place s. -/
def turnS (l : List Bool) (s : Nat) : Option Nat := match sc (l.drop s) s with | some j => some j | none => sc (l.take s) 0
theorem sc_wrap (l : List Bool) (s : Nat) (hs : s ≤ l.length) : (match sc (l.drop s) s with | some j => some j | none => sc l 0) = turnS l s := by
  unfold turnS
  cases h : sc (l.drop s) s with
  | some j => rfl
  | none =>
    dsimp only
    conv => lhs; rw [← List.take_append_drop s l]
    rw [sc_app]
    cases h2 : sc (l.take s) 0 with
    | some j => rfl
    | none =>
      dsimp only
      rw [List.length_take, Nat.min_eq_left hs, Nat.zero_add, h]
/-- Where a walk round begins. -/
def startS (n : Nat) (last : Int) : Nat := if last < 0 ∨ (n : Int) ≤ last then n else (last + 1).toNat
theorem startS_le (n : Nat) (last : Int) : startS n last ≤ n := by unfold startS; split <;> omega
theorem tmod_lo {a n : Int} (h0 : 0 ≤ a) (h1 : a < n) : Int.tmod a n = a := Int.tmod_eq_of_lt h0 h1
theorem tmod_hi {a n : Int} (h0 : n ≤ a) (h1 : a < 2 * n) : Int.tmod a n = a - n := by
  rw [Int.tmod_eq_emod_of_nonneg (by omega)]
  have : a = (a - n) + n * 1 := by omega
  rw [this, Int.add_mul_emod_self_left, Int.emod_eq_of_lt (by omega) (by omega)]; omega
/-- The second half of the way round: places 0 to s - 1. -/
theorem q_l0b (l : List Bool) (hl : l.length ≤ 1000) (s : Nat) (hs : s ≤ l.length) (d : Nat) : ∀ i : Nat, i ≤ s → s - i = d → Ev (fun k => queue_Turn.l0 k l ((s : Int) - 1) l.length ((i : Int) + l.length - s + 1)) (told (sc ((l.take s).drop i) i)) := by
  induction d with
  | zero =>
    intro i hi hd
    rw [List.drop_of_length_le (by rw [List.length_take]; omega)]
    refine Ev.step (f := fun _ => some ((0 : Int), false)) (fun k => ?_) (Ev.now _)
    simp only [queue_Turn.l0]; rw [if_neg (by omega)]
  | succ d ih =>
    intro i hi hd
    have hlt : i < (l.take s).length := by rw [List.length_take]; omega
    have hrd : rdOf false (l.take s) (i : Int) = rdOf false l (i : Int) := by simp [rdOf]; rw [List.getElem?_take_of_lt (by omega)]
    have hw : wrap64 (((s : Int) - 1) + ((i : Int) + l.length - s + 1)) = (i : Int) + l.length := by rw [w64 (by omega) (by omega)]; omega
    have ht : Int.tmod ((i : Int) + l.length) l.length = (i : Int) := by rw [tmod_hi (by omega) (by omega)]; omega
    rw [drop_b hlt, sc, hrd]
    by_cases h : rdOf false l (i : Int) = true
    · rw [if_pos h]
      refine Ev.step (f := fun _ => some ((i : Int), true)) (fun k => ?_) (Ev.now _)
      simp only [queue_Turn.l0]; rw [if_pos (by omega), if_neg (by omega), hw, ht, if_pos (by omega), if_pos (by omega), if_pos h]
    · rw [if_neg h]
      refine Ev.step (fun k => ?_) (ih (i + 1) (by omega) (by omega))
      simp only [queue_Turn.l0]; rw [if_pos (by omega), if_neg (by omega), hw, ht, if_pos (by omega), if_pos (by omega), if_neg h, w64 (by omega) (by omega)]
      congr 1; push_cast; omega
theorem q_l0a (l : List Bool) (hl : l.length ≤ 1000) (s : Nat) (hs : s ≤ l.length) (d : Nat) : ∀ i : Nat, s ≤ i → i ≤ l.length → l.length - i = d → Ev (fun k => queue_Turn.l0 k l ((s : Int) - 1) l.length ((i : Int) - s + 1)) (told (match sc (l.drop i) i with | some j => some j | none => sc (l.take s) 0)) := by
  induction d with
  | zero =>
    intro i hi hi2 hd
    rw [List.drop_of_length_le (by omega)]
    refine Ev.congr (fun k => ?_) (q_l0b l hl s hs s 0 (by omega) (by omega))
    congr 1; omega
  | succ d ih =>
    intro i hi hi2 hd
    have hw : wrap64 (((s : Int) - 1) + ((i : Int) - s + 1)) = (i : Int) := by rw [w64 (by omega) (by omega)]; omega
    have ht : Int.tmod (i : Int) l.length = (i : Int) := tmod_lo (by omega) (by omega)
    rw [drop_b (by omega), sc]
    by_cases h : rdOf false l (i : Int) = true
    · rw [if_pos h]
      refine Ev.step (f := fun _ => some ((i : Int), true)) (fun k => ?_) (Ev.now _)
      simp only [queue_Turn.l0]; rw [if_pos (by omega), if_neg (by omega), hw, ht, if_pos (by omega), if_pos (by omega), if_pos h]
    · rw [if_neg h]
      refine Ev.step (fun k => ?_) (ih (i + 1) (by omega) (by omega) (by omega))
      simp only [queue_Turn.l0]; rw [if_pos (by omega), if_neg (by omega), hw, ht, if_pos (by omega), if_pos (by omega), if_neg h, w64 (by omega) (by omega)]
      congr 1; push_cast; omega
theorem q_turn (l : List Bool) (hl : l.length ≤ 1000) (last : Int) : Ev (fun k => queue_Turn.f k l last) (told (turnS l (startS l.length last))) := by
  have key : ∀ (s : Nat) (x : Int), s ≤ l.length → x = (s : Int) - 1 → Ev (fun k => queue_Turn.j1 k l x l.length) (told (turnS l s)) := by
    intro s x hs hx
    refine Ev.step (fun k => ?_) (q_l0a l hl s hs (l.length - s) s (Nat.le_refl _) hs rfl)
    simp only [queue_Turn.j1]; rw [hx]; congr 1; omega
  have out : (last < 0 ∨ (l.length : Int) ≤ last) → Ev (fun k => queue_Turn.j0 k l last l.length true) (told (turnS l (startS l.length last))) := by
    intro h
    unfold startS
    rw [if_pos h]
    refine Ev.step (fun k => ?_) (key l.length ((l.length : Int) - 1) (Nat.le_refl _) rfl)
    simp only [queue_Turn.j0]; rw [if_pos trivial, w64 (by omega) (by omega)]
  by_cases h0 : last < 0
  · refine Ev.congr (fun k => ?_) (out (.inl h0))
    unfold queue_Turn.f
    rw [if_pos h0]
  · by_cases h1 : (l.length : Int) ≤ last
    · refine Ev.congr (fun k => ?_) (out (.inr h1))
      unfold queue_Turn.f
      rw [if_neg h0, decide_eq_true (by omega)]
    · unfold startS
      rw [if_neg (by omega)]
      refine Ev.congr (f := fun k => queue_Turn.j0 k l last l.length false) (fun k => ?_) (Ev.step (fun k => ?_) (key (last + 1).toNat last (by omega) (by omega)))
      · unfold queue_Turn.f
        rw [if_neg h0, decide_eq_false (by omega)]
      · simp only [queue_Turn.j0]; rw [if_neg (by simp)]
theorem sc_some : ∀ (l : List Bool) (i j : Nat), sc l i = some j → i ≤ j ∧ j < i + l.length ∧ l.getD (j - i) false = true ∧ ∀ m, m < j - i → l.getD m false = false
  | [], i, j, h => by simp [sc] at h
  | b :: t, i, j, h => by
    rw [sc] at h
    by_cases c : b = true
    · rw [if_pos c] at h
      obtain rfl : i = j := Option.some.inj h
      exact ⟨Nat.le_refl _, by simp, by simp [c], fun m hm => by omega⟩
    · rw [if_neg c] at h
      obtain ⟨h1, h2, h3, h4⟩ := sc_some t (i + 1) j h
      refine ⟨by omega, by simp; omega, ?_, fun m hm => ?_⟩
      · rw [show j - i = (j - (i + 1)) + 1 from by omega]; simpa using h3
      · cases m with
        | zero => simpa using c
        | succ m => simpa using h4 m (by omega)
theorem sc_none : ∀ (l : List Bool) (i : Nat), sc l i = none → ∀ m : Nat, l.getD m false = false
  | [], i, h, m => by simp
  | b :: t, i, h, m => by
    rw [sc] at h
    by_cases c : b = true
    · rw [if_pos c] at h; cases h
    · rw [if_neg c] at h
      cases m with
      | zero => simpa using c
      | succ m => simpa using sc_none t (i + 1) h m
def pos (n s w : Nat) : Nat := if s ≤ w then w - s else w + n - s
theorem getD_drop (l : List Bool) (s m : Nat) : (l.drop s).getD m false = l.getD (s + m) false := by simp [List.getD_eq_getElem?_getD]
theorem getD_take (l : List Bool) (s m : Nat) (h : m < s) : (l.take s).getD m false = l.getD m false := by simp [List.getD_eq_getElem?_getD, List.getElem?_take_of_lt h]
theorem turn_who (l : List Bool) (s who : Nat) (hs : s ≤ l.length) (hw : who < l.length) (ht : l.getD who false = true) : ∃ i, turnS l s = some i ∧ i < l.length ∧ l.getD i false = true ∧ pos l.length s i ≤ pos l.length s who := by
  unfold turnS
  cases h : sc (l.drop s) s with
  | some j =>
    obtain ⟨h1, h2, h3, h4⟩ := sc_some _ _ _ h
    rw [List.length_drop] at h2
    rw [getD_drop, show s + (j - s) = j from by omega] at h3
    refine ⟨j, rfl, by omega, h3, ?_⟩
    unfold pos
    rw [if_pos h1]
    by_cases c : s ≤ who
    · rw [if_pos c]
      by_cases d : j ≤ who
      · omega
      · have := h4 (who - s) (by omega)
        rw [getD_drop, show s + (who - s) = who from by omega, ht] at this; cases this
    · rw [if_neg c]; omega
  | none =>
    dsimp only
    have hn := sc_none _ _ h
    have c : who < s := by
      by_cases c : who < s
      · exact c
      · have := hn (who - s)
        rw [getD_drop, show s + (who - s) = who from by omega, ht] at this; cases this
    cases h2 : sc (l.take s) 0 with
    | none =>
      have := sc_none _ _ h2 who
      rw [getD_take _ _ _ c, ht] at this; cases this
    | some j =>
      obtain ⟨h5, h6, h7, h8⟩ := sc_some _ _ _ h2
      rw [List.length_take] at h6
      rw [getD_take _ _ _ (by omega), Nat.sub_zero] at h7
      refine ⟨j, rfl, by omega, h7, ?_⟩
      unfold pos
      rw [if_neg (by omega), if_neg (by omega)]
      by_cases d : j ≤ who
      · omega
      · have := h8 who (by omega)
        rw [getD_take _ _ _ (by omega), ht] at this; cases this
theorem pos_next (n s i who : Nat) (hs : s ≤ n) (hi : i < n) (hw : who < n) (hle : pos n s i ≤ pos n s who) (hne : i ≠ who) : pos n (i + 1) who < pos n s who := by
  unfold pos at *
  split at hle <;> split at hle <;> split <;> (try split) <;> omega
theorem fair_l1 (x0 : List (List Bool)) (who last : Int) (n kk : Nat) (hn : n ≤ 20) (H : ∀ y : List Bool, y.length = n → Ev (fun k => inquestlaw19_QueueFair.j2 k x0 who last n kk y) true) (d : Nat) :
    ∀ (i : Nat) (y : List Bool), y.length = n → i ≤ n → n - i = d → Ev (fun k => inquestlaw19_QueueFair.l1 k x0 who last n kk y i) true := by
  induction d with
  | zero =>
    intro i y hy hi hd
    refine Ev.step (fun k => ?_) (H y hy)
    simp only [inquestlaw19_QueueFair.l1]; rw [if_neg (by omega)]
  | succ d ih =>
    intro i y hy hi hd
    by_cases c : (kk : Int) < (x0.length : Int)
    · by_cases c2 : (i : Int) < ((rd_L2 x0 (kk : Int)).length : Int)
      · refine Ev.step (fun k => ?_) (ih (i + 1) (y.set i (rdOf false (rd_L2 x0 (kk : Int)) (i : Int))) (by rw [List.length_set]; exact hy) (by omega) (by omega))
        simp only [inquestlaw19_QueueFair.l1]
        rw [if_pos (by omega), if_pos c, if_pos (by omega), if_pos c2, if_pos (by omega), if_pos (by omega), w64 (by omega) (by omega)]; rfl
      · refine Ev.step (fun k => ?_) (H y hy)
        simp only [inquestlaw19_QueueFair.l1]; rw [if_pos (by omega), if_pos c, if_pos (by omega), if_neg c2]
    · refine Ev.step (fun k => ?_) (H y hy)
      simp only [inquestlaw19_QueueFair.l1]; rw [if_pos (by omega), if_neg c]
theorem fair_l0 (x0 : List (List Bool)) (who n : Nat) (hn : n ≤ 20) (hw : who < n) (d : Nat) : ∀ (kk : Nat) (last : Int), kk < n → n - kk = d → pos n (startS n last) who + kk < n →
    Ev (fun k => inquestlaw19_QueueFair.l0 k x0 who last n kk) true := by
  induction d with
  | zero => intro kk last h1 h2 h3; omega
  | succ d ih =>
    intro kk last h1 h2 h3
    refine Ev.step (f := fun k => inquestlaw19_QueueFair.l1 k x0 who last n kk (List.replicate n false) 0) (fun k => ?_) (fair_l1 x0 who last n kk hn ?_ n 0 _ (by simp) (by omega) rfl)
    · simp only [inquestlaw19_QueueFair.l0]; rw [if_pos (by omega), if_pos (by omega), if_pos (by omega)]; rfl
    · intro y hy
      have hy1 : (y.set who true).length = n := by rw [List.length_set]; exact hy
      obtain ⟨i, e1, e2, e3, e4⟩ := turn_who (y.set who true) (startS n last) who (by rw [hy1]; exact startS_le _ _) (by rw [hy1]; exact hw) (by simp [List.getD_eq_getElem?_getD, hy, hw])
      have ht := q_turn (y.set who true) (by rw [hy1]; omega) last
      rw [hy1] at ht e2 e4
      rw [e1] at ht
      have hb : (!(rdOf false (y.set who true) (i : Int))) = false := by simp only [rdOf, Int.toNat_natCast]; rw [e3]; rfl
      have hj : Ev (fun k => inquestlaw19_QueueFair.j3 k x0 who n kk i false) true := by
        by_cases c : i = who
        · subst c
          refine Ev.step (f := fun _ => some true) (fun k => ?_) (Ev.now _)
          simp only [inquestlaw19_QueueFair.j3]; rw [if_neg (by simp), if_pos trivial]; rfl
        · have hs : startS n (i : Int) = i + 1 := by unfold startS; rw [if_neg (by omega)]; omega
          have hp := pos_next n (startS n last) i who (startS_le _ _) e2 hw e4 c
          refine Ev.step (fun k => ?_) (ih (kk + 1) (i : Int) (by omega) (by omega) (by rw [hs]; omega))
          simp only [inquestlaw19_QueueFair.j3]; rw [if_neg (by simp), if_neg (by omega), w64 (by omega) (by omega)]; rfl
      refine Ev.step (f := fun k => (queue_Turn.f k (y.set who true) last).bind fun bt => (if bt.2 = true then (if bt.1 < 0 then (inquestlaw19_QueueFair.j3 k x0 who n kk bt.1 true) else (if bt.1 ≥ (n : Int) then (inquestlaw19_QueueFair.j3 k x0 who n kk bt.1 true) else (if 0 ≤ bt.1 then (if bt.1 < (y.length : Int) then (inquestlaw19_QueueFair.j3 k x0 who n kk bt.1 (!(rdOf false (y.set who true) bt.1))) else (none)) else (none)))) else (inquestlaw19_QueueFair.j3 k x0 who n kk bt.1 true))) (fun k => ?_) ?_
      · simp only [inquestlaw19_QueueFair.j2]
        rw [if_pos (by omega), if_pos (by omega)]; simp only [Option.bind_some, Int.toNat_natCast]
      · refine Ev.bind ht ?_
        refine Ev.congr (fun k => ?_) hj
        dsimp only [told]
        have c1 : ¬ ((i : Int) < 0) := by omega
        have c2 : ¬ ((i : Int) ≥ (n : Int)) := by omega
        have c3 : 0 ≤ (i : Int) := by omega
        have c4 : (i : Int) < (y.length : Int) := by omega
        simp only [↓reduceIte, c1, c2, c3, c4, hb]
theorem QueueFair : inquestlaw19_QueueFair.Pure := by
  intro l0 a1 a2 a3 _ _ _ _
  refine Ev.rounds ?_
  unfold inquestlaw19_QueueFair.f
  obtain ⟨n, e1, h1, h2⟩ := least01 a3 1 20 (by omega)
  rw [e1]
  simp only [Option.bind_some]
  rw [w64 (by omega) (by omega)]
  obtain ⟨who, e2, h3, h4⟩ := least01 a1 0 (n - 1) (by omega)
  rw [e2]
  simp only [Option.bind_some]
  obtain ⟨n, rfl⟩ := Int.eq_ofNat_of_zero_le (show 0 ≤ n by omega)
  obtain ⟨who, rfl⟩ := Int.eq_ofNat_of_zero_le h3
  refine fair_l0 l0 who n (by omega) (by omega) n 0 a2 (by omega) rfl ?_
  have := startS_le n a2
  unfold pos
  split <;> omega

end Go.Proofs.Ytkhacnckajamhaa.Pure
