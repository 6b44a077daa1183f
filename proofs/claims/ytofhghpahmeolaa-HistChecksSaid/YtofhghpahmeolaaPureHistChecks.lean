/- The law HistChecks answers true at every input: which events are a history, or where and why not. No condition. The printed texts and the row beside it were written by wip/bin/pp.sh of this session. -/
import Derived.Test.YtofhghpahmeolaaPHistChecksx3
namespace Go.Proofs.Ytofhghpahmeolaa.Pure
open Go.RowKit Go.Proofs.Ytofhghpahmeolaa.PHistChecks Go.Proofs.YtofhghpahmeolaaW.PrintWords Go.Proofs.YtofhghpahmeolaaW.PrintLast Go.Proofs.YtofhghpahmeolaaW.PrintMore
set_option linter.unusedVariables false
set_option linter.unusedSimpArgs false
theorem w64 {i : Int} (h : -9223372036854775808 ≤ i) (h' : i ≤ 9223372036854775807) : wrap64 i = i := by unfold wrap64; omega
theorem wf_u64 {a : Int} (h : (Lit.int .u64 a).wf = true) : 0 ≤ a ∧ a < 18446744073709551616 := by
  simp [Lit.wf, IntKind.min, IntKind.max, IntKind.signed, IntKind.bits] at h; omega
theorem wf_i64 {a : Int} (h : (Lit.int .i64 a).wf = true) : -9223372036854775808 ≤ a ∧ a ≤ 9223372036854775807 := by
  simp [Lit.wf, IntKind.min, IntKind.max, IntKind.signed, IntKind.bits] at h; omega
theorem wf_u32 {a : Int} (h : (Lit.int .u32 a).wf = true) : 0 ≤ a ∧ a < 4294967296 := by
  simp [Lit.wf, IntKind.min, IntKind.max, IntKind.signed, IntKind.bits] at h; omega
theorem wu64 (n : Int) : IntKind.u64.wrap n = n % 18446744073709551616 := by simp [IntKind.wrap, IntKind.bits, IntKind.signed]
theorem wu32 (n : Int) : IntKind.u32.wrap n = n % 4294967296 := by simp [IntKind.wrap, IntKind.bits, IntKind.signed]
theorem wi64 (n : Int) : IntKind.i64.wrap n = wrap64 n := by
  simp [IntKind.wrap, IntKind.bits, IntKind.signed, wrap64]; split <;> omega
def chkZ (L : List S44) : Int × Int := hist_Check.z L 0 0 (List.replicate 16 false)
theorem r14_Check_is (L : List S44) (hl : L.length ≤ 1000) : inquestref14_Check.f L = some (chkZ L) := if_pos hl
theorem few14 (l : List S44) (n : Nat) (hn : n ≤ 1000) (h : l.length ≤ maxLen) : inquestref14_Few.f l n = some (l.take n) := by
  unfold inquestref14_Few.f
  have e : ([] : List S44).length = 0 := rfl
  by_cases c : l.length ≤ n
  · rw [if_neg (by omega), if_pos (by rw [e]; omega), List.take_of_length_le c]; rfl
  · rw [if_pos (by omega), if_pos (by omega), if_pos (by omega)]
    simp only [Option.bind_some, Int.toNat_natCast]
    rw [if_pos (by rw [e, List.length_take]; omega)]; rfl
theorem same14_l0 (d : Nat) : ∀ (a : List S44) (i : Nat), a.length ≤ 9223372036854775806 → a.length - i = d → i ≤ a.length → Ev (fun k => inquestref14_Same.l0 k a a i) true := by
  induction d with
  | zero =>
    intro a i hl hd hi
    refine Ev.step (f := fun _ => some true) (fun k => ?_) (Ev.now _)
    simp only [inquestref14_Same.l0]; rw [if_neg (by omega)]
  | succ d ih =>
    intro a i hl hd hi
    refine Ev.step (fun k => ?_) (ih a (i + 1) hl (by omega) (by omega))
    simp only [inquestref14_Same.l0]
    rw [if_pos (by omega), if_pos (by omega), if_pos (by omega), if_neg (by simp), w64 (by omega) (by omega)]; rfl
theorem same14_t (a : List S44) (hl : a.length ≤ 9223372036854775806) : Ev (fun k => inquestref14_Same.f k a a) true := by
  refine Ev.congr (fun k => ?_) (same14_l0 a.length a 0 hl (by omega) (by omega))
  unfold inquestref14_Same.f
  rw [if_pos rfl]; rfl
theorem lives14 : inquestlaw14_lives.f = some true := by decide +kernel
theorem HistChecks : inquestlaw14_HistChecks.Pure := by
  intro l hl _
  refine Ev.rounds ?_
  unfold inquestlaw14_HistChecks.f
  have f1 : inquestref14_Few.f l 200 = some (l.take 200) := few14 l 200 (by omega) hl
  rw [f1]
  simp only [Option.bind_some]
  have l200 : (l.take 200).length ≤ 200 := by rw [List.length_take]; omega
  have l2 : (l.take 200).length ≤ maxLen := by simp only [maxLen]; omega
  have f2 : inquestref14_Few.f (l.take 200) 200 = some ((l.take 200).take 200) := few14 _ 200 (by omega) l2
  rw [f2, List.take_of_length_le l200]
  simp only [Option.bind_some]
  clear l2 f1 f2
  generalize l.take 200 = L at l200
  rw [show hist_Check.f L = some (chkZ L) from rfl]
  simp only [Option.bind_some]
  rw [r14_Check_is L (by omega)]
  simp only [Option.bind_some, if_true]
  refine Ev.bind (same14_t L (by omega)) ?_
  simp only [if_true]
  rw [lives14]
  exact Ev.now _

end Go.Proofs.Ytofhghpahmeolaa.Pure
