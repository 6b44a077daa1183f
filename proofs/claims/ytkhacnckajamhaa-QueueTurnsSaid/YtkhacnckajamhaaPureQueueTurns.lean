/- The law QueueTurns answers true at every input: whose turn it is, whoever wants one and whoever had the last. No condition. The printed texts and the row beside it were written by wip/bin/pp.sh of this session. -/
import Derived.Test.YtkhacnckajamhaaPQueueTurnsx2
namespace Go.Proofs.Ytkhacnckajamhaa.Pure
open Go.RowKit Go.Proofs.Ytkhacnckajamhaa.PQueueTurns Go.Proofs.YtkhacnckajamhaaW.PrintWords Go.Proofs.YtkhacnckajamhaaW.PrintLast Go.Proofs.YtkhacnckajamhaaW.PrintMore
set_option linter.unusedVariables false
set_option linter.unusedSimpArgs false
theorem w64 {i : Int} (h : -9223372036854775808 ≤ i) (h' : i ≤ 9223372036854775807) : wrap64 i = i := by unfold wrap64; omega
theorem wf_u64 {a : Int} (h : (Lit.int .u64 a).wf = true) : 0 ≤ a ∧ a < 18446744073709551616 := by
  simp [Lit.wf, IntKind.min, IntKind.max, IntKind.signed, IntKind.bits] at h; omega
theorem wf_i64 {a : Int} (h : (Lit.int .i64 a).wf = true) : -9223372036854775808 ≤ a ∧ a ≤ 9223372036854775807 := by
  simp [Lit.wf, IntKind.min, IntKind.max, IntKind.signed, IntKind.bits] at h; omega
theorem wf_u32 {a : Int} (h : (Lit.int .u32 a).wf = true) : 0 ≤ a ∧ a < 4294967296 := by
  simp [Lit.wf, IntKind.min, IntKind.max, IntKind.signed, IntKind.bits] at h; omega
theorem wu64 (n : Int) : IntKind.u64.wrap n = n % 18446744073709551616 := by simp [IntKind.wrap, IntKind.bits, IntKind.signed]
theorem wu32 (n : Int) : IntKind.u32.wrap n = n % 4294967296 := by simp [IntKind.wrap, IntKind.bits, IntKind.signed]
theorem wi64 (n : Int) : IntKind.i64.wrap n = wrap64 n := by
  simp [IntKind.wrap, IntKind.bits, IntKind.signed, wrap64]; split <;> omega
/-- The first place from i on that wants. -/
def sc : List Bool → Nat → Option Nat
  | [], _ => none
  | b :: t, i => if b = true then some i else sc t (i + 1)
def told : Option Nat → Int × Bool
  | some i => ((i : Int), true)
  | none => (0, false)
theorem sc_app (p q : List Bool) : ∀ i, sc (p ++ q) i = match sc p i with | some j => some j | none => sc q (i + p.length) := by
  induction p with
  | nil => intro i; simp [sc]
  | cons b t ih =>
    intro i
    rw [List.cons_append, sc, sc]
    by_cases h : b = true
    · rw [if_pos h, if_pos h]
    · rw [if_neg h, if_neg h, ih, List.length_cons]; rw [show i + 1 + t.length = i + (t.length + 1) from by omega]
theorem drop_b {l : List Bool} {i : Nat} (h : i < l.length) : l.drop i = rdOf false l (i : Int) :: l.drop (i + 1) := by
  rw [List.drop_eq_getElem_cons h]; congr 1; simp [rdOf, h]
theorem ref_l1 (l : List Bool) (hl : l.length ≤ 1000) (d : Nat) : ∀ i : Nat, i ≤ l.length → l.length - i = d → Ev (fun k => inquestref19_Turn.l1 k l i) (told (sc (l.drop i) i)) := by
  induction d with
  | zero =>
    intro i hi hd
    rw [List.drop_of_length_le (by omega)]
    refine Ev.step (f := fun _ => some ((0 : Int), false)) (fun k => ?_) (Ev.now _)
    simp only [inquestref19_Turn.l1]; rw [if_neg (by omega)]
  | succ d ih =>
    intro i hi hd
    rw [drop_b (by omega), sc]
    by_cases h : rdOf false l (i : Int) = true
    · rw [if_pos h]
      refine Ev.step (f := fun _ => some ((i : Int), true)) (fun k => ?_) (Ev.now _)
      simp only [inquestref19_Turn.l1]; rw [if_pos (by omega), if_pos (by omega), if_pos h]
    · rw [if_neg h]
      refine Ev.step (fun k => ?_) (ih (i + 1) (by omega) (by omega))
      simp only [inquestref19_Turn.l1]; rw [if_pos (by omega), if_pos (by omega), if_neg h, w64 (by omega) (by omega)]; rfl
theorem ref_j2 (l : List Bool) (hl : l.length ≤ 1000) : Ev (fun k => inquestref19_Turn.j2 k l) (told (sc l 0)) := by
  refine Ev.step (fun k => ?_) (ref_l1 l hl l.length 0 (by omega) (by omega))
  simp only [inquestref19_Turn.j2]; rfl
theorem ref_l0 (l : List Bool) (hl : l.length ≤ 1000) (d : Nat) : ∀ i : Nat, i ≤ l.length → l.length - i = d → Ev (fun k => inquestref19_Turn.l0 k l i) (told (match sc (l.drop i) i with | some j => some j | none => sc l 0)) := by
  induction d with
  | zero =>
    intro i hi hd
    rw [List.drop_of_length_le (by omega)]
    refine Ev.step (fun k => ?_) (ref_j2 l hl)
    simp only [inquestref19_Turn.l0]; rw [if_neg (by omega)]
  | succ d ih =>
    intro i hi hd
    rw [drop_b (by omega), sc]
    by_cases h : rdOf false l (i : Int) = true
    · rw [if_pos h]
      refine Ev.step (f := fun _ => some ((i : Int), true)) (fun k => ?_) (Ev.now _)
      simp only [inquestref19_Turn.l0]; rw [if_pos (by omega), if_pos (by omega), if_pos h]
    · rw [if_neg h]
      refine Ev.step (fun k => ?_) (ih (i + 1) (by omega) (by omega))
      simp only [inquestref19_Turn.l0]; rw [if_pos (by omega), if_pos (by omega), if_neg h, w64 (by omega) (by omega)]; rfl
/-- Whose turn it is, behind place s. -/
def turnS (l : List Bool) (s : Nat) : Option Nat := match sc (l.drop s) s with | some j => some j | none => sc (l.take s) 0
theorem sc_wrap (l : List Bool) (s : Nat) (hs : s ≤ l.length) : (match sc (l.drop s) s with | some j => some j | none => sc l 0) = turnS l s := by
  unfold turnS
  cases h : sc (l.drop s) s with
  | some j => rfl
  | none =>
    dsimp only
    conv => lhs; rw [← List.take_append_drop s l]
    rw [sc_app]
    cases h2 : sc (l.take s) 0 with
    | some j => rfl
    | none =>
      dsimp only
      rw [List.length_take, Nat.min_eq_left hs, Nat.zero_add, h]
/-- Where a walk round begins. -/
def startS (n : Nat) (last : Int) : Nat := if last < 0 ∨ (n : Int) ≤ last then n else (last + 1).toNat
theorem startS_le (n : Nat) (last : Int) : startS n last ≤ n := by unfold startS; split <;> omega
theorem ref_turn (l : List Bool) (hl : l.length ≤ 1000) (last : Int) : Ev (fun k => inquestref19_Turn.f k l last) (told (turnS l (startS l.length last))) := by
  have hout : (last < 0 ∨ (l.length : Int) ≤ last) → Ev (fun k => inquestref19_Turn.j0 k l last false) (told (turnS l (startS l.length last))) := by
    intro h
    unfold startS
    rw [if_pos h]
    unfold turnS
    rw [List.drop_of_length_le (Nat.le_refl _), List.take_of_length_le (Nat.le_refl _)]
    refine Ev.step (fun k => ?_) (ref_j2 l hl)
    simp only [inquestref19_Turn.j0]; rw [if_neg (by simp)]
  by_cases h0 : last < 0
  · refine Ev.congr (fun k => ?_) (hout (.inl h0))
    unfold inquestref19_Turn.f
    rw [if_neg (by omega)]
  · by_cases h1 : (l.length : Int) ≤ last
    · refine Ev.congr (fun k => ?_) (hout (.inr h1))
      unfold inquestref19_Turn.f
      rw [if_pos (by omega), decide_eq_false (by omega)]
    · unfold startS
      rw [if_neg (by omega)]
      obtain ⟨m, rfl⟩ := Int.eq_ofNat_of_zero_le (show 0 ≤ last by omega)
      rw [show ((m : Int) + 1).toNat = m + 1 from by omega, ← sc_wrap l (m + 1) (by omega)]
      refine Ev.congr (f := fun k => inquestref19_Turn.j0 k l (m : Int) true) (fun k => ?_) (Ev.step (fun k => ?_) (ref_l0 l hl (l.length - (m + 1)) (m + 1) (by omega) rfl))
      · unfold inquestref19_Turn.f
        rw [if_pos (by omega), decide_eq_true (by omega)]
      · simp only [inquestref19_Turn.j0]; rw [if_pos trivial, w64 (by omega) (by omega)]; rfl
theorem tmod_lo {a n : Int} (h0 : 0 ≤ a) (h1 : a < n) : Int.tmod a n = a := Int.tmod_eq_of_lt h0 h1
theorem tmod_hi {a n : Int} (h0 : n ≤ a) (h1 : a < 2 * n) : Int.tmod a n = a - n := by
  rw [Int.tmod_eq_emod_of_nonneg (by omega)]
  have : a = (a - n) + n * 1 := by omega
  rw [this, Int.add_mul_emod_self_left, Int.emod_eq_of_lt (by omega) (by omega)]; omega
/-- The second half of the way round: places 0 to s - 1. -/
theorem q_l0b (l : List Bool) (hl : l.length ≤ 1000) (s : Nat) (hs : s ≤ l.length) (d : Nat) : ∀ i : Nat, i ≤ s → s - i = d → Ev (fun k => queue_Turn.l0 k l ((s : Int) - 1) l.length ((i : Int) + l.length - s + 1)) (told (sc ((l.take s).drop i) i)) := by
  induction d with
  | zero =>
    intro i hi hd
    rw [List.drop_of_length_le (by rw [List.length_take]; omega)]
    refine Ev.step (f := fun _ => some ((0 : Int), false)) (fun k => ?_) (Ev.now _)
    simp only [queue_Turn.l0]; rw [if_neg (by omega)]
  | succ d ih =>
    intro i hi hd
    have hlt : i < (l.take s).length := by rw [List.length_take]; omega
    have hrd : rdOf false (l.take s) (i : Int) = rdOf false l (i : Int) := by simp [rdOf]; rw [List.getElem?_take_of_lt (by omega)]
    have hw : wrap64 (((s : Int) - 1) + ((i : Int) + l.length - s + 1)) = (i : Int) + l.length := by rw [w64 (by omega) (by omega)]; omega
    have ht : Int.tmod ((i : Int) + l.length) l.length = (i : Int) := by rw [tmod_hi (by omega) (by omega)]; omega
    rw [drop_b hlt, sc, hrd]
    by_cases h : rdOf false l (i : Int) = true
    · rw [if_pos h]
      refine Ev.step (f := fun _ => some ((i : Int), true)) (fun k => ?_) (Ev.now _)
      simp only [queue_Turn.l0]; rw [if_pos (by omega), if_neg (by omega), hw, ht, if_pos (by omega), if_pos (by omega), if_pos h]
    · rw [if_neg h]
      refine Ev.step (fun k => ?_) (ih (i + 1) (by omega) (by omega))
      simp only [queue_Turn.l0]; rw [if_pos (by omega), if_neg (by omega), hw, ht, if_pos (by omega), if_pos (by omega), if_neg h, w64 (by omega) (by omega)]
      congr 1; push_cast; omega
theorem q_l0a (l : List Bool) (hl : l.length ≤ 1000) (s : Nat) (hs : s ≤ l.length) (d : Nat) : ∀ i : Nat, s ≤ i → i ≤ l.length → l.length - i = d → Ev (fun k => queue_Turn.l0 k l ((s : Int) - 1) l.length ((i : Int) - s + 1)) (told (match sc (l.drop i) i with | some j => some j | none => sc (l.take s) 0)) := by
  induction d with
  | zero =>
    intro i hi hi2 hd
    rw [List.drop_of_length_le (by omega)]
    refine Ev.congr (fun k => ?_) (q_l0b l hl s hs s 0 (by omega) (by omega))
    congr 1; omega
  | succ d ih =>
    intro i hi hi2 hd
    have hw : wrap64 (((s : Int) - 1) + ((i : Int) - s + 1)) = (i : Int) := by rw [w64 (by omega) (by omega)]; omega
    have ht : Int.tmod (i : Int) l.length = (i : Int) := tmod_lo (by omega) (by omega)
    rw [drop_b (by omega), sc]
    by_cases h : rdOf false l (i : Int) = true
    · rw [if_pos h]
      refine Ev.step (f := fun _ => some ((i : Int), true)) (fun k => ?_) (Ev.now _)
      simp only [queue_Turn.l0]; rw [if_pos (by omega), if_neg (by omega), hw, ht, if_pos (by omega), if_pos (by omega), if_pos h]
    · rw [if_neg h]
      refine Ev.step (fun k => ?_) (ih (i + 1) (by omega) (by omega) (by omega))
      simp only [queue_Turn.l0]; rw [if_pos (by omega), if_neg (by omega), hw, ht, if_pos (by omega), if_pos (by omega), if_neg h, w64 (by omega) (by omega)]
      congr 1; push_cast; omega
theorem q_turn (l : List Bool) (hl : l.length ≤ 1000) (last : Int) : Ev (fun k => queue_Turn.f k l last) (told (turnS l (startS l.length last))) := by
  have key : ∀ (s : Nat) (x : Int), s ≤ l.length → x = (s : Int) - 1 → Ev (fun k => queue_Turn.j1 k l x l.length) (told (turnS l s)) := by
    intro s x hs hx
    refine Ev.step (fun k => ?_) (q_l0a l hl s hs (l.length - s) s (Nat.le_refl _) hs rfl)
    simp only [queue_Turn.j1]; rw [hx]; congr 1; omega
  have out : (last < 0 ∨ (l.length : Int) ≤ last) → Ev (fun k => queue_Turn.j0 k l last l.length true) (told (turnS l (startS l.length last))) := by
    intro h
    unfold startS
    rw [if_pos h]
    refine Ev.step (fun k => ?_) (key l.length ((l.length : Int) - 1) (Nat.le_refl _) rfl)
    simp only [queue_Turn.j0]; rw [if_pos trivial, w64 (by omega) (by omega)]
  by_cases h0 : last < 0
  · refine Ev.congr (fun k => ?_) (out (.inl h0))
    unfold queue_Turn.f
    rw [if_pos h0]
  · by_cases h1 : (l.length : Int) ≤ last
    · refine Ev.congr (fun k => ?_) (out (.inr h1))
      unfold queue_Turn.f
      rw [if_neg h0, decide_eq_true (by omega)]
    · unfold startS
      rw [if_neg (by omega)]
      refine Ev.congr (f := fun k => queue_Turn.j0 k l last l.length false) (fun k => ?_) (Ev.step (fun k => ?_) (key (last + 1).toNat last (by omega) (by omega)))
      · unfold queue_Turn.f
        rw [if_neg h0, decide_eq_false (by omega)]
      · simp only [queue_Turn.j0]; rw [if_neg (by simp)]
theorem QueueTurns : inquestlaw19_QueueTurns.Pure := by
  intro l0 a1 hl hw
  have hl1 : (l0.take 100).length ≤ 1000 := by rw [List.length_take]; omega
  refine Ev.rounds ?_
  unfold inquestlaw19_QueueTurns.f
  refine Ev.bind (q_turn (l0.take 100) hl1 a1) ?_
  refine Ev.bind (ref_turn (l0.take 100) hl1 a1) ?_
  exact Ev.congr (fun k => if_pos rfl) (Ev.now true)

end Go.Proofs.Ytkhacnckajamhaa.Pure
