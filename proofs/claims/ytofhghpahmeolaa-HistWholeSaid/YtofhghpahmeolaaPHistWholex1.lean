-- Written by a program of this session (wip/bin/patch_print.py): a turned copy of the kit's printer. Not trusted: Lean checks it.
import Derived.Test.YtofhghpahmeolaaPHistWholex0
namespace Go.Proofs.Ytofhghpahmeolaa.PHistWhole
open Go.RowKit Go.Proofs.YtofhghpahmeolaaW.PrintWords Go.Proofs.YtofhghpahmeolaaW.PrintLast Go.Proofs.YtofhghpahmeolaaW.PrintMore
attribute [local go_sem] max2_int min2_int max_two min_two max_three min_three max_four min_four   -- for this text's walks alone
set_option linter.unusedVariables false
set_option linter.unusedSimpArgs false

/-! ### inquestref14_Few: function 10 -/
def inquestref14_Few.f (l0 : List (S44)) (a1 : Int) : Option ((List (S44))) := if (l0.length : Int) > a1 then (if 0 ≤ a1 then (if a1 ≤ (l0.length : Int) then ((some (l0.take (a1 : Int).toNat : List (S44))).bind fun y101 => (if ([] : List (S44)).length + y101.length < 4398046511104 then (some (([] : List (S44)) ++ y101)) else (none))) else (none)) else (none)) else (if ([] : List (S44)).length + l0.length < 4398046511104 then (some (([] : List (S44)) ++ l0)) else (none))
set_option maxHeartbeats 8000000 in
set_option maxRecDepth 100000 in
theorem inquestref14_Few.calls (A0 : Option Addr) (c0 : Nat) (l0 : List (S44)) (a1 : Int) (r : List (S44)) (w : World) (hr0 : Kd.C k44 w A0 l0.length l0) (hc0 : l0.length ≤ c0) (h : inquestref14_Few.f l0 a1 = some r) :
    Calls Try.prog 10 #[.slice A0 l0.length c0, .int .i64 a1] w fun e w' => ∃ v0_ : Value, e = .returned (v0_) ∧ Kd.R k44 44 w' w.heap.size (fun _ => True) v0_ r ∧ Below w.heap.size w w' := by
  have HR0 := Aside0.mk hr0
  have HC0 := Aside0.mk hc0
  clear hr0 hc0
  have HB := Aside0.mk (Below.refl w.heap.size w)
  have H : (if (l0.length : Int) > a1 then (if 0 ≤ a1 then (if a1 ≤ (l0.length : Int) then ((some (l0.take (a1 : Int).toNat : List (S44))).bind fun y101 => (if ([] : List (S44)).length + y101.length < 4398046511104 then (some (([] : List (S44)) ++ y101)) else (none))) else (none)) else (none)) else (if ([] : List (S44)).length + l0.length < 4398046511104 then (some (([] : List (S44)) ++ l0)) else (none))) = some r := h
  clear h
  by_cases c3 : (l0.length : Int) > a1
  · rw [if_pos c3] at H
    have c3b0 : decide (a1 < (l0.length : Int)) = true := decide_eq_true c3
    clear c3
    by_cases c4 : 0 ≤ a1
    · rw [if_pos c4] at H
      have c4b0 := eq_true c4
      have c4b1 : decide (0 ≤ a1) = true := decide_eq_true c4
      clear c4
      by_cases c5 : a1 ≤ (l0.length : Int)
      · rw [if_pos c5] at H
        have c5b0 := eq_true c5
        have c5b1 : decide (a1 ≤ (l0.length : Int)) = true := decide_eq_true c5
        clear c5
        obtain ⟨y101, hy101⟩ : ∃ y_ : List (S44), y_ = (l0.take (a1 : Int).toNat) := ⟨_, rfl⟩
        replace H : (if ([] : List (S44)).length + y101.length < 4398046511104 then (some (([] : List (S44)) ++ y101)) else (none)) = some r := by first | (rw [hy101]; with_reducible exact H) | (have H2_ := (Option.bind_some _ _).symm.trans H; rw [hy101]; with_reducible exact H2_) | (have H2_ := (Option.bind_some _ _).symm.trans H; with_reducible exact H2_) | with_reducible exact H | (rw [hy101]; exact H) | exact H
        have Ny101 := Aside0.mk hy101
        clear hy101
        by_cases c6 : ([] : List (S44)).length + y101.length < 4398046511104
        · rw [if_pos c6] at H
          have LMc6 := Aside0.mk c6
          clear c6
          obtain ⟨y105, hy105⟩ : ∃ y_ : List (S44), y_ = (([] : List (S44)) ++ y101) := ⟨_, rfl⟩
          replace H : (some y105) = some r := by first | (rw [hy105]; with_reducible exact H) | (have H2_ := (Option.bind_some _ _).symm.trans H; rw [hy105]; with_reducible exact H2_) | (have H2_ := (Option.bind_some _ _).symm.trans H; with_reducible exact H2_) | with_reducible exact H | (rw [hy105]; exact H) | exact H
          have Ny105 := Aside0.mk hy105
          clear hy105
          obtain rfl := Option.some.inj H
          have q7 : (a1 : Int) ≤ ((l0.length : Int) : Int) := of_decide_eq_true (by first | (with_reducible assumption) | assumption)
          obtain ⟨i07, hi07, _, hsz7, _⟩ := info_parts info44
          have hroom7 : l0.length ≤ c0 := HC0.out
          have hC7 : Kd.C k44 _ A0 l0.length l0 := HR0.out
          have hcut7 := cut_to (P := Try.prog) 22 44 .i64 Try.underlying22 hi07 A0 l0.length c0 a1 (of_decide_eq_true (by first | (with_reducible assumption) | assumption)) q7 hroom7
          have hr7 := Kd.C_take (m := (a1 : Int).toNat) hC7 (by omega)
          have hy7 : y101.length = (a1 : Int).toNat := (by rw [Ny101.out, List.length_take]; omega)
          rw [← Ny101.out] at hr7
          rw [← hy7] at hcut7
          have HR104 := Aside0.mk hr7
          have HC104 := Aside0.mk (show y101.length ≤ c0 from by omega)
          clear hr7 hC7 hroom7 hi07 hsz7
          have KY7 := Aside0.mk hy7
          clear hy7
          replace q7 := eq_true q7
          go_enter Try.func10, Try.ntmps10
          go_wp2_with (first | ((with_reducible refine gate_builtin (b := .append) (xs := #[.tmp 13, .tmp 14]) rfl ?_); at_builtin; refine Kd.R_append_rows k44 (w0 := w) w.heap.size rfl (.tmp 13) (.tmp 14) 22 44 (.agg #[(.int .i64 0), (.bool false), (.int .i64 0), (.int .i64 0)]) 32 rfl Try.underlying22 info44 rfl (by decide) (by omega) (.slice none 0 0) ([] : List (S44)) y101 _ _ _ (fun _ => True) (fun _ => False) rfl rfl ?aO ?aR (fun _ _ h => h) (fun _ h => h.elim) ?aF ?aB ?aS ?aL ?_; (case aR => repeat (first | exact HR104.out | (with_reducible refine Kd.C_alloc ?_ _) | (with_reducible refine Kd.C_drewN ?_ _) | (with_reducible refine Kd.C_drew ?_))); (case aB => exact (by repeat (first | (with_reducible first | exact HB.out | apply below_alloc | apply pw_below_drewN | apply below_drew1) | exact HB.out))); (case aF => exact (fun _ _ => trivial)); (case aO => exact ((Kd.R_nil _ _ _ _ (fun _ => True)))); (case aS => exact (below_size (by repeat (first | (with_reducible first | exact HB.out | apply below_alloc | apply pw_below_drewN | apply below_drew1) | exact HB.out)))); (case aL => have := LMc6.out; omega); intro v106 w8 ho hb hg hat; rw [← Ny105.out] at ho; have n0_ := Aside0.mk (hb); have n1_ := Aside0.mk (ho); clear HB; have HB := n0_; have HO107 := n1_; clear n0_ n1_; clear ho hb hg hat))
          go_ret
          exact ⟨_, by first | rfl | (simp [errW_none, errW_some] <;> rfl) | (simp [*, errW_none, errW_some] <;> rfl), by (with_reducible repeat (first | apply Kd.R_alloc | apply Kd.R_drewN | apply Kd.R_drew)); exact HO107.out, by repeat (first | (with_reducible first | exact HB.out | apply below_alloc | apply pw_below_drewN | apply below_drew1) | exact HB.out)⟩
        · rw [if_neg c6] at H
          exact absurd H (by simp)
      · rw [if_neg c5] at H
        exact absurd H (by simp)
    · rw [if_neg c4] at H
      exact absurd H (by simp)
  · rw [if_neg c3] at H
    have c3b0 : decide (a1 < (l0.length : Int)) = false := decide_eq_false c3
    clear c3
    by_cases c9 : ([] : List (S44)).length + l0.length < 4398046511104
    · rw [if_pos c9] at H
      have LMc9 := Aside0.mk c9
      clear c9
      obtain ⟨y108, hy108⟩ : ∃ y_ : List (S44), y_ = (([] : List (S44)) ++ l0) := ⟨_, rfl⟩
      replace H : (some y108) = some r := by first | (rw [hy108]; with_reducible exact H) | (have H2_ := (Option.bind_some _ _).symm.trans H; rw [hy108]; with_reducible exact H2_) | (have H2_ := (Option.bind_some _ _).symm.trans H; with_reducible exact H2_) | with_reducible exact H | (rw [hy108]; exact H) | exact H
      have Ny108 := Aside0.mk hy108
      clear hy108
      obtain rfl := Option.some.inj H
      go_enter Try.func10, Try.ntmps10
      go_wp2_with (first | ((with_reducible refine gate_builtin (b := .append) (xs := #[.tmp 13, .tmp 14]) rfl ?_); at_builtin; refine Kd.R_append_rows k44 (w0 := w) w.heap.size rfl (.tmp 13) (.tmp 14) 22 44 (.agg #[(.int .i64 0), (.bool false), (.int .i64 0), (.int .i64 0)]) 32 rfl Try.underlying22 info44 rfl (by decide) (by omega) (.slice none 0 0) ([] : List (S44)) l0 _ _ _ (fun _ => True) (fun _ => False) rfl rfl ?aO ?aR (fun _ _ h => h) (fun _ h => h.elim) ?aF ?aB ?aS ?aL ?_; (case aR => repeat (first | exact HR0.out | (with_reducible refine Kd.C_alloc ?_ _) | (with_reducible refine Kd.C_drewN ?_ _) | (with_reducible refine Kd.C_drew ?_))); (case aB => exact (by repeat (first | (with_reducible first | exact HB.out | apply below_alloc | apply pw_below_drewN | apply below_drew1) | exact HB.out))); (case aF => exact (fun _ _ => trivial)); (case aO => exact ((Kd.R_nil _ _ _ _ (fun _ => True)))); (case aS => exact (below_size (by repeat (first | (with_reducible first | exact HB.out | apply below_alloc | apply pw_below_drewN | apply below_drew1) | exact HB.out)))); (case aL => have := LMc9.out; omega); intro v109 w10 ho hb hg hat; rw [← Ny108.out] at ho; have n0_ := Aside0.mk (hb); have n1_ := Aside0.mk (ho); clear HB; have HB := n0_; have HO110 := n1_; clear n0_ n1_; clear ho hb hg hat))
      go_ret
      exact ⟨_, by first | rfl | (simp [errW_none, errW_some] <;> rfl) | (simp [*, errW_none, errW_some] <;> rfl), by (with_reducible repeat (first | apply Kd.R_alloc | apply Kd.R_drewN | apply Kd.R_drew)); exact HO110.out, by repeat (first | (with_reducible first | exact HB.out | apply below_alloc | apply pw_below_drewN | apply below_drew1) | exact HB.out)⟩
    · rw [if_neg c9] at H
      exact absurd H (by simp)

/-! ### hist_Check: function 11 -/
/-- Events, one by one: which are open, how many calls there were. -/
def hist_Check.z : List S44 → Nat → Int → List Bool → Int × Int
  | [], _, _, _ => (0, 0)
  | x :: l, i, c, xs =>
    if x.f0 < 0 ∨ 16 ≤ x.f0 ∨ x.f2 < 0 ∨ 16 ≤ x.f2 ∨ (x.f1 = false ∧ x.f2 ≠ 0) then ((i : Int), 2)
    else if x.f1 = true ∧ c = 64 then ((i : Int), 5)
    else if x.f1 = rdOf false xs x.f0 then ((i : Int), 20)
    else hist_Check.z l (i + 1) (if x.f1 = true then c + 1 else c) (xs.set x.f0.toNat x.f1)
def hist_Check.f (l0 : List S44) : Option (Int × Int) := some (hist_Check.z l0 0 0 (List.replicate 16 false))
/-- The local row of bools, whole in its block. -/
structure Opn (w W : World) (xs : List Bool) : Prop where
  hB : Below w.heap.size w W
  hg : W.heap[w.heap.size]? = some (.cells (xs.map Value.bool).toArray 60 (0, 0))
  hl : xs.length = 16
theorem Opn.came {w W W' : World} {xs : List Bool} (h : Opn w W xs) (hb : Below W.heap.size W W') : Opn w W' xs := ⟨below_step h.hB hb, blk_below h.hg hb, h.hl⟩
theorem Opn.cell {w W : World} {xs : List Bool} (h : Opn w W xs) (c : Int) (h0 : 0 ≤ c) (h1 : c < 16) : W.cell? ⟨w.heap.size, c.toNat, none⟩ = some (.bool (rdOf false xs c)) ∧ W.frozen? ⟨w.heap.size, c.toNat, none⟩ = false := by
  refine ⟨?_, blk_frozen h.hg _⟩
  rw [blk_cell h.hg]
  have : c.toNat < xs.length := by rw [h.hl]; omega
  simp [rdOf, List.getElem?_eq_getElem this]
theorem Opn.set {w W : World} {xs : List Bool} (h : Opn w W xs) (c : Int) (v : Bool) : Opn w (W.setCell ⟨w.heap.size, c.toNat, none⟩ (.bool v)) (xs.set c.toNat v) :=
  ⟨below_set h.hB (Nat.le_refl _), blk_put h.hg _ _ (by simp), by simp [h.hl]⟩
theorem hist_drop (l : List S44) (i : Nat) (h : i < l.length) : l.drop i = rd_T44 l i :: l.drop (i + 1) := by
  rw [List.drop_eq_getElem_cons h]; congr 1; simp [rd_T44, List.getElem?_eq_getElem h]
theorem w64_h {i : Int} (h1 : -9223372036854775808 ≤ i) (h2 : i ≤ 9223372036854775807) : wrap64 i = i := by unfold wrap64; omega
set_option maxHeartbeats 8000000 in
theorem hist_Check.calls (A0 : Option Addr) (c0 : Nat) (l0 : List S44) (r1 r2 : Int) (w : World) (hr0 : Kd.C k44 w A0 l0.length l0) (hc0 : l0.length ≤ c0) (h : hist_Check.f l0 = some (r1, r2)) :
    Calls Try.prog 11 #[.slice A0 l0.length c0] w fun e w' => e = .returned (.tuple #[.int .i64 r1, .int .i64 r2]) ∧ Below w.heap.size w w' := by
  have hu44 := Try.underlying44
  replace h := Aside0.mk (Option.some.inj h)
  go_enter Try.func11, Try.ntmps11
  go_wp2
  go_loopg [5, 10] l0.length (fun k v5 v10 W => ∃ (i : Nat) (c : Int) (xs : List Bool), v5 = .int .i64 c ∧ v10 = .int .i64 i ∧ Aside0 (k + i = l0.length) ∧ Aside0 (hist_Check.z (l0.drop i) i c xs = (r1, r2)) ∧ 0 ≤ c ∧ c ≤ i ∧ i ≤ l0.length ∧ Opn w W xs)
  case atStart => exact ⟨0, 0, List.replicate 16 false, rfl, rfl, ⟨Nat.add_zero _⟩, h, by omega, by omega, by omega, below_alloc (Below.refl _ _) _, blk_new w _, rfl⟩
  case round =>
    obtain ⟨i, c, xs, rfl, rfl, hk, hz, hc, hci, hin, hI⟩ := hrel
    have hm := Kd.C_max hr0
    by_cases hil : (i : Int) < (l0.length : Int)
    · have p0 : (0 : Int) ≤ (i : Int) := Int.natCast_nonneg i
      obtain ⟨j, rfl⟩ : ∃ j, gk = j + 1 := ⟨gk - 1, by have := hk.out; omega⟩
      obtain ⟨ad, rfl, hy0, hy1, hy2, hy3⟩ := at_T44 (Kd.C_below hr0 hI.hB) (i : Int) p0 hil
      simp only [Int.toNat_natCast] at hy0 hy1 hy2 hy3
      have hrr := hz.out
      rw [hist_drop l0 i (by omega)] at hrr
      unfold hist_Check.z at hrr
      have hwi : wrap64 ((i : Int) + 1) = (i : Int) + 1 := w64_h (by omega) (by omega)
      have hwc : wrap64 (c + 1) = c + 1 := w64_h (by omega) (by omega)
      clear h hz hm
      generalize (rd_T44 l0 i).f0 = cl at *
      generalize (rd_T44 l0 i).f1 = ca at *
      generalize (rd_T44 l0 i).f2 = op at *
      generalize (rd_T44 l0 i).f3 = va at *
      have hbx := blk_new wr (.cells #[.int .i64 cl, .bool ca, .int .i64 op, .int .i64 va] 44)
      have b0 := blk_cell hbx 0
      have b1 := blk_cell hbx 1
      have b2 := blk_cell hbx 2
      have b3 := blk_cell hbx 3
      have hJ := hI.came (below_alloc (Below.refl _ _) (.cells #[.int .i64 cl, .bool ca, .int .i64 op, .int .i64 va] 44))
      simp only [List.getElem?_toArray, List.getElem?_cons_zero, List.getElem?_cons_succ] at b0 b1 b2 b3
      clear hbx
      have n1 : w.heap.size ≠ wr.heap.size := Nat.ne_of_lt (blk_lt hI.hg)
      have n2 : wr.heap.size ≠ w.heap.size := fun e => n1 e.symm
      by_cases cA : cl < 0
      · rw [if_pos (.inl cA)] at hrr
        obtain ⟨rfl, rfl⟩ : (i : Int) = r1 ∧ (2 : Int) = r2 := by simpa using hrr
        clear hrr
        have cA' := eq_true cA
        go_wp2
        go_ret2
        exact ⟨rfl, hJ.hB⟩
      have cA' : (cl < 0) = False := eq_false cA
      by_cases cB : 16 ≤ cl
      · rw [if_pos (.inr (.inl cB))] at hrr
        obtain ⟨rfl, rfl⟩ : (i : Int) = r1 ∧ (2 : Int) = r2 := by simpa using hrr
        clear hrr
        have cB' := eq_true cB
        go_wp2
        go_ret2
        exact ⟨rfl, hJ.hB⟩
      have cB' : (16 ≤ cl) = False := eq_false cB
      by_cases cC : op < 0
      · rw [if_pos (.inr (.inr (.inl cC)))] at hrr
        obtain ⟨rfl, rfl⟩ : (i : Int) = r1 ∧ (2 : Int) = r2 := by simpa using hrr
        clear hrr
        have cC' := eq_true cC
        go_wp2
        go_ret2
        exact ⟨rfl, hJ.hB⟩
      have cC' : (op < 0) = False := eq_false cC
      by_cases cD : 16 ≤ op
      · rw [if_pos (.inr (.inr (.inr (.inl cD))))] at hrr
        obtain ⟨rfl, rfl⟩ : (i : Int) = r1 ∧ (2 : Int) = r2 := by simpa using hrr
        clear hrr
        have cD' := eq_true cD
        go_wp2
        go_ret2
        exact ⟨rfl, hJ.hB⟩
      have cD' : (16 ≤ op) = False := eq_false cD
      obtain ⟨o1, o2⟩ := hJ.cell cl (by omega) (by omega)
      have p1 : 0 ≤ cl := by omega
      have p2 : cl < 16 := by omega
      cases ca with
      | false =>
        by_cases cE : op = 0
        · subst cE
          rw [if_neg (by simp [cA, cB]), if_neg (by simp)] at hrr
          cases hx : rdOf false xs cl with
          | false =>
            rw [hx] at hrr o1
            rw [if_pos rfl] at hrr
            obtain ⟨rfl, rfl⟩ : (i : Int) = r1 ∧ (20 : Int) = r2 := by simpa using hrr
            clear hrr
            go_wp2
            go_quiet (fail)
            go_wp2
            go_ret2
            exact ⟨rfl, pw_below_drewN hJ.hB _⟩
          | true =>
            rw [hx] at hrr o1
            rw [if_neg (by simp), if_neg (by simp)] at hrr
            replace hrr := Aside0.mk hrr
            go_wp2
            go_quiet (fail)
            go_wp2
            go_roundg j
            case measure => omega
            case rel => exact ⟨i + 1, c, xs.set cl.toNat false, (by first | rfl | rw [hwc]), (by first | rfl | (rw [hwi]; rfl)), ⟨by have := hk.out; omega⟩, hrr, by omega, by omega, by omega, (hJ.came (pw_below_drewN (Below.refl _ _) _)).set cl false⟩
        · rw [if_pos (.inr (.inr (.inr (.inr ⟨rfl, cE⟩))))] at hrr
          obtain ⟨rfl, rfl⟩ : (i : Int) = r1 ∧ (2 : Int) = r2 := by simpa using hrr
          clear hrr
          have cE' : (op != 0) = true := by simpa using cE
          go_wp2
          go_ret2
          exact ⟨rfl, hJ.hB⟩
      | true =>
        rw [if_neg (by simp [cA, cB, cC, cD])] at hrr
        by_cases cF : c = 64
        · subst cF
          rw [if_pos ⟨rfl, rfl⟩] at hrr
          obtain ⟨rfl, rfl⟩ : (i : Int) = r1 ∧ (5 : Int) = r2 := by simpa using hrr
          clear hrr
          go_wp2
          go_ret2
          exact ⟨rfl, hJ.hB⟩
        have cF' : (c == 64) = false := by simpa using cF
        rw [if_neg (by simp [cF])] at hrr
        cases hx : rdOf false xs cl with
        | true =>
          rw [hx] at hrr o1
          rw [if_pos rfl] at hrr
          obtain ⟨rfl, rfl⟩ : (i : Int) = r1 ∧ (20 : Int) = r2 := by simpa using hrr
          clear hrr
          go_wp2
          go_quiet (fail)
          go_wp2
          go_ret2
          exact ⟨rfl, pw_below_drewN hJ.hB _⟩
        | false =>
          rw [hx] at hrr o1
          rw [if_neg (by simp), if_pos rfl] at hrr
          replace hrr := Aside0.mk hrr
          go_wp2
          go_quiet (fail)
          go_wp2
          go_roundg j
          case measure => omega
          case rel => exact ⟨i + 1, c + 1, xs.set cl.toNat true, (by first | rfl | rw [hwc]), (by first | rfl | (rw [hwi]; rfl)), ⟨by have := hk.out; omega⟩, hrr, by omega, by omega, by omega, (hJ.came (pw_below_drewN (Below.refl _ _) _)).set cl true⟩
    · obtain rfl : i = l0.length := by omega
      have hrr := hz.out
      rw [List.drop_of_length_le (Nat.le_refl _)] at hrr
      unfold hist_Check.z at hrr
      obtain ⟨rfl, rfl⟩ : (0 : Int) = r1 ∧ (0 : Int) = r2 := by simpa using hrr
      clear hrr hz h hm
      go_wp2
      go_ret2
      exact ⟨rfl, hI.hB⟩

/-! ### hist_Ops: function 15 -/
def cells40 (x : S40) : List Value := [.int .i64 x.f0, .int .i64 x.f1, .int .i64 x.f2, .bool x.f3, .int .i64 x.f4, .int .i64 x.f5, .int .i64 x.f6]
/-- A row of operations, by its block's cells. -/
structure Row40 (W : World) (b cap : Nat) (xs : List S40) (cur : Array Value) : Prop where
  hb : W.heap[b]? = some (.cells cur 40 (0, 0))
  hs : cur.size = cap * 7
  hn : xs.length ≤ cap
  hm : cap ≤ maxLen
  hc : ∀ i j : Nat, i < xs.length → j < 7 → cur[i * 7 + j]? = (cells40 (rd_T40 xs i))[j]?
theorem row40_of {W : World} {base : Nat} {ok : Nat → Prop} {v : Value} {xs : List S40} (h : k40.R 40 W base ok v xs) (hx : 0 < xs.length) :
    ∃ (b cap : Nat) (cur : Array Value), v = .slice (some ⟨b, 0, none⟩) xs.length cap ∧ base ≤ b ∧ Row40 W b cap xs cur := by
  obtain ⟨_, inner, ho, hr⟩ := h
  rcases ho.2 with ⟨_, h0⟩ | ⟨b, cap, cur, rfl, hb, hw, hn, hm, hs, ht⟩
  · omega
  · refine ⟨b, cap, cur, rfl, hb, hw, hs, hn, hm, fun i j hi hj => ?_⟩
    have e := k40_openM (hr.2 i (rd_T40 xs i) (by simp [rd_T40, List.getElem?_eq_getElem hi]))
    have e2 : ((inner.drop (i * 7)).take 7)[j]? = (cells40 (rd_T40 xs i))[j]? := by rw [show ((inner.drop (i * 7)).take 7) = cells40 (rd_T40 xs i) from e]
    rw [List.getElem?_take, if_pos hj, List.getElem?_drop, ← ht, List.getElem?_take, if_pos (show i * 7 + j < xs.length * k40.sz from by show i * 7 + j < xs.length * 7; omega), Array.getElem?_toList] at e2
    exact e2
theorem row40_to {W : World} {base : Nat} {b cap : Nat} {xs : List S40} {cur : Array Value} (h : Row40 W b cap xs cur) (hb : base ≤ b) : k40.R 40 W base (fun _ => True) (.slice (some ⟨b, 0, none⟩) xs.length cap) xs := by
  refine ⟨fun _ _ => trivial, cur.toList.take (xs.length * 7), ⟨?_, .inr ⟨b, cap, cur, rfl, hb, h.hb, h.hn, h.hm, h.hs, rfl⟩⟩, ?_, fun i p hp => ?_⟩
  · show (cur.toList.take (xs.length * 7)).length = xs.length * 7
    have e : cur.toList.length = cap * 7 := by simpa using h.hs
    have := h.hn; rw [List.length_take, e]; omega
  · show (cur.toList.take (xs.length * 7)).length = xs.length * 7
    have e : cur.toList.length = cap * 7 := by simpa using h.hs
    have := h.hn; rw [List.length_take, e]; omega
  · obtain ⟨hi, hp⟩ := List.getElem?_eq_some_iff.1 hp
    have e : ((cur.toList.take (xs.length * 7)).drop (i * 7)).take 7 = cells40 p := by
      apply List.ext_getElem?
      intro j
      rw [List.getElem?_take]
      by_cases hj : j < 7
      · rw [if_pos hj, List.getElem?_drop, List.getElem?_take, if_pos (by omega), Array.getElem?_toList, h.hc i j hi hj]
        have : rd_T40 xs i = p := by rw [← hp]; simp [rd_T40, List.getElem?_eq_getElem hi]
        rw [this]
      · rw [if_neg hj, List.getElem?_eq_none (by show 7 ≤ j; omega)]
    show k40.M W base _ p (((cur.toList.take (xs.length * 7)).drop (i * 7)).take 7)
    rw [e]
    exact k40_mkM _ _ _ _
theorem Row40.put {W : World} {b cap : Nat} {xs : List S40} {cur : Array Value} (h : Row40 W b cap xs cur) (i : Nat) (hi : i < xs.length) (d : Bool) (r t : Int) :
    ∃ cur2, Row40 (((W.setCell ⟨b, i * 7 + 3, none⟩ (.bool d)).setCell ⟨b, i * 7 + 4, none⟩ (.int .i64 r)).setCell ⟨b, i * 7 + 6, none⟩ (.int .i64 t)) b cap
      (xs.set i ⟨(rd_T40 xs i).f0, (rd_T40 xs i).f1, (rd_T40 xs i).f2, d, r, (rd_T40 xs i).f5, t⟩) cur2 := by
  have hn := h.hn
  refine ⟨_, blk_set (blk_set (blk_set h.hb _ _) _ _) _ _, by simp [h.hs], by simpa using hn, h.hm, fun i2 j h2 hj => ?_⟩
  rw [List.length_set] at h2
  have hz : i2 * 7 + j < cur.size := by rw [h.hs]; omega
  have e := h.hc i2 j h2 hj
  simp only [Array.getElem?_setIfInBounds, Array.size_setIfInBounds]
  by_cases c : i2 = i
  · subst c
    have hr : rd_T40 (xs.set i2 ⟨(rd_T40 xs i2).f0, (rd_T40 xs i2).f1, (rd_T40 xs i2).f2, d, r, (rd_T40 xs i2).f5, t⟩) i2 = ⟨(rd_T40 xs i2).f0, (rd_T40 xs i2).f1, (rd_T40 xs i2).f2, d, r, (rd_T40 xs i2).f5, t⟩ := by simp [rd_T40, h2]
    rw [hr]
    obtain rfl | rfl | rfl | rfl | rfl | rfl | rfl : j = 0 ∨ j = 1 ∨ j = 2 ∨ j = 3 ∨ j = 4 ∨ j = 5 ∨ j = 6 := by omega
    · rw [if_neg (by omega), if_neg (by omega), if_neg (by omega), e]; rfl
    · rw [if_neg (by omega), if_neg (by omega), if_neg (by omega), e]; rfl
    · rw [if_neg (by omega), if_neg (by omega), if_neg (by omega), e]; rfl
    · rw [if_neg (by omega), if_neg (by omega), if_pos rfl, if_pos hz]; rfl
    · rw [if_neg (by omega), if_pos rfl, if_pos hz]; rfl
    · rw [if_neg (by omega), if_neg (by omega), if_neg (by omega), e]; rfl
    · rw [if_pos rfl, if_pos hz]; rfl
  · rw [if_neg (by omega), if_neg (by omega), if_neg (by omega), e]
    have : rd_T40 (xs.set i ⟨(rd_T40 xs i).f0, (rd_T40 xs i).f1, (rd_T40 xs i).f2, d, r, (rd_T40 xs i).f5, t⟩) i2 = rd_T40 xs i2 := by
      simp only [rd_T40, Int.toNat_natCast, List.getD_eq_getElem?_getD]; rw [List.getElem?_set_ne (by omega)]
    rw [this]
/-- Operations, event by event: what was built, where each client's last one stands. -/
def hist_Ops.l0 : List S44 → Nat → List S40 → List Int → Option (List S40)
  | [], _, out, _ => some out
  | x :: l, i, out, la =>
    if 0 ≤ x.f0 ∧ x.f0 < 16 ∧ out.length ≤ 1000 then
      (if x.f1 = true then hist_Ops.l0 l (i + 1) (out ++ [⟨x.f0, x.f2, x.f3, false, 0, i, -1⟩]) (la.set x.f0.toNat (out.length : Int))
       else if 0 ≤ rd la x.f0 ∧ rd la x.f0 < (out.length : Int) then
        hist_Ops.l0 l (i + 1) (out.set (rd la x.f0).toNat ⟨(rd_T40 out (rd la x.f0)).f0, (rd_T40 out (rd la x.f0)).f1, (rd_T40 out (rd la x.f0)).f2, true, x.f3, (rd_T40 out (rd la x.f0)).f5, i⟩) la
       else none)
    else none
def hist_Ops.f (l0 : List S44) : Option (List S40 × Int) :=
  (hist_Check.f l0).bind fun t => if t.2 = 0 then (hist_Ops.l0 l0 0 [] (List.replicate 16 0)).bind fun o => some (o, 0) else some ([], t.2)
structure Os (w W : World) (g : Nat) (vO : Value) (out : List S40) (la : List Int) : Prop where
  hB : Below w.heap.size w W
  bg : w.heap.size ≤ g
  hg : W.heap[g]? = some (.cells (la.map (Value.int .i64)).toArray 63 (0, 0))
  hl : la.length = 16
  hO : k40.R 40 W w.heap.size (fun _ => True) vO out
theorem Os.came {w W W' : World} {g : Nat} {vO : Value} {out : List S40} {la : List Int} (h : Os w W g vO out la) (hb : Below W.heap.size W W') : Os w W' g vO out la :=
  ⟨below_step h.hB hb, h.bg, blk_below h.hg hb, h.hl, Kd.R_below h.hO hb⟩
theorem Os.cell {w W : World} {g : Nat} {vO : Value} {out : List S40} {la : List Int} (h : Os w W g vO out la) (c : Int) (h0 : 0 ≤ c) (h1 : c < 16) : W.cell? ⟨g, c.toNat, none⟩ = some (.int .i64 (rd la c)) ∧ W.frozen? ⟨g, c.toNat, none⟩ = false := by
  refine ⟨?_, blk_frozen h.hg _⟩
  rw [blk_cell h.hg]
  have : c.toNat < la.length := by rw [h.hl]; omega
  simp [rd, List.getElem?_eq_getElem this]
theorem Os.set {w W : World} {g : Nat} {vO : Value} {out : List S40} {la : List Int} (h : Os w W g vO out la) (c v : Int) : Os w (W.setCell ⟨g, c.toNat, none⟩ (.int .i64 v)) g vO out (la.set c.toNat v) :=
  ⟨below_set h.hB h.bg, h.bg, blk_put h.hg _ _ (by simp), by simp [h.hl], Kd.R_set h.hO h.hg (by decide) _ _⟩
theorem ops_info40 : (Try.prog.info? 40).map (fun i => (i.zero, i.size, i.bytes)) = some (some (.agg #[(.int .i64 0), (.int .i64 0), (.int .i64 0), (.bool false), (.int .i64 0), (.int .i64 0), (.int .i64 0)]), 7, 56) := by kernel_rfl
theorem ops_err (A0 : Option Addr) (c0 : Nat) (l0 : List S44) (r1 r2 : Int) (w : World) (hr0 : Kd.C k44 w A0 l0.length l0) (hc0 : l0.length ≤ c0) (h : hist_Check.f l0 = some (r1, r2)) (hn : r2 ≠ 0) :
    Calls Try.prog 15 #[.slice A0 l0.length c0] w fun e w' => e = .returned (.tuple #[.slice none 0 0, .int .i64 r2]) ∧ Below w.heap.size w w' := by
  have hn2 : (r2 != 0) = true := by simpa using hn
  go_enter Try.func15, Try.ntmps15
  go_wp2_with (first | (go_at_call 11; (with_reducible refine (hist_Check.calls A0 c0 l0 r1 r2 _ (by first | exact hr0 | exact Kd.C_drew hr0) hc0 h).mono ?_); rintro e w1 ⟨rfl, hb⟩))
  go_ret2
  exact ⟨rfl, hb⟩
set_option maxHeartbeats 8000000 in
theorem ops_main (A0 : Option Addr) (c0 : Nat) (l0 : List S44) (r1 : Int) (os : List S40) (w : World) (hr0 : Kd.C k44 w A0 l0.length l0) (hc0 : l0.length ≤ c0) (h : hist_Check.f l0 = some (r1, 0)) (ho : hist_Ops.l0 l0 0 [] (List.replicate 16 0) = some os) :
    Calls Try.prog 15 #[.slice A0 l0.length c0] w fun e w' => ∃ v0_, e = .returned (.tuple #[v0_, .int .i64 0]) ∧ Kd.R k40 40 w' w.heap.size (fun _ => True) v0_ os ∧ Below w.heap.size w w' := by
  have hu44 := Try.underlying44
  replace ho := Aside0.mk ho
  go_enter Try.func15, Try.ntmps15
  go_wp2_with (first | (go_at_call 11; (with_reducible refine (hist_Check.calls A0 c0 l0 r1 0 _ (by first | exact hr0 | exact Kd.C_drew hr0) hc0 h).mono ?_); rintro e w1 ⟨rfl, hb⟩))
  go_loopg [6, 21] l0.length (fun k v6 v21 W => ∃ (i : Nat) (out : List S40) (la : List Int), v21 = .int .i64 i ∧ Aside0 (k + i = l0.length) ∧ Aside0 (hist_Ops.l0 (l0.drop i) i out la = some os) ∧ i ≤ l0.length ∧ Os w W w1.heap.size v6 out la)
  case atStart => exact ⟨0, [], List.replicate 16 0, rfl, ⟨Nat.add_zero _⟩, ho, by omega, below_step hb (below_alloc (Below.refl _ _) _), hb.size, blk_new w1 _, rfl, Kd.R_nil _ _ _ _ _⟩
  case round =>
    obtain ⟨i, out, la, rfl, hk, hz, hin, hI⟩ := hrel
    have hm := Kd.C_max hr0
    by_cases hil : (i : Int) < (l0.length : Int)
    · have p0 : (0 : Int) ≤ (i : Int) := Int.natCast_nonneg i
      obtain ⟨j, rfl⟩ : ∃ j, gk = j + 1 := ⟨gk - 1, by have := hk.out; omega⟩
      obtain ⟨ad, rfl, hy0, hy1, hy2, hy3⟩ := at_T44 (Kd.C_below hr0 hI.hB) (i : Int) p0 hil
      simp only [Int.toNat_natCast] at hy0 hy1 hy2 hy3
      have hrr := hz.out
      rw [hist_drop l0 i (by omega)] at hrr
      unfold hist_Ops.l0 at hrr
      have hwi : wrap64 ((i : Int) + 1) = (i : Int) + 1 := w64_h (by omega) (by omega)
      clear h hz hm ho
      generalize (rd_T44 l0 i).f0 = cl at *
      generalize (rd_T44 l0 i).f1 = ca at *
      generalize (rd_T44 l0 i).f2 = op at *
      generalize (rd_T44 l0 i).f3 = va at *
      by_cases hcl : 0 ≤ cl ∧ cl < 16 ∧ out.length ≤ 1000
      · rw [if_pos hcl] at hrr
        obtain ⟨p1, p2, p3⟩ := hcl
        have hbx := blk_new wr (.cells #[.int .i64 cl, .bool ca, .int .i64 op, .int .i64 va] 44)
        have b0 := blk_cell hbx 0
        have b1 := blk_cell hbx 1
        have b2 := blk_cell hbx 2
        have b3 := blk_cell hbx 3
        have hJ := hI.came (below_alloc (Below.refl _ _) (.cells #[.int .i64 cl, .bool ca, .int .i64 op, .int .i64 va] 44))
        simp only [List.getElem?_toArray, List.getElem?_cons_zero, List.getElem?_cons_succ] at b0 b1 b2 b3
        clear hbx
        have n1 : w1.heap.size ≠ wr.heap.size := Nat.ne_of_lt (blk_lt hI.hg)
        have n2 : wr.heap.size ≠ w1.heap.size := fun e => n1 e.symm
        obtain ⟨o1, o2⟩ := hJ.cell cl p1 p2
        cases ca with
        | true =>
          rw [if_pos rfl] at hrr
          replace hrr := Aside0.mk hrr
          obtain ⟨Ao, co, rfl⟩ := Kd.R_slice hI.hO
          have hK := hJ.set cl (out.length : Int)
          go_wp2_with (first | ((with_reducible refine gate_builtin (b := .append) (xs := #[.tmp 33, .tmp 42]) rfl ?_); at_builtin; refine Kd.R_append k40 (w0 := w) w.heap.size rfl (.tmp 33) (.tmp 42) 32 40 (.agg #[.int .i64 0, .int .i64 0, .int .i64 0, .bool false, .int .i64 0, .int .i64 0, .int .i64 0]) 56 rfl Try.underlying32 ops_info40 rfl (by decide) (by omega) (.slice Ao out.length co) out (⟨cl, op, va, false, 0, i, -1⟩ : S40) [.int .i64 cl, .int .i64 op, .int .i64 va, .bool false, .int .i64 0, .int .i64 i, .int .i64 (-1)] (fun _ => True) (fun _ => False) rfl (by first | (go_simp; done) | (go_simp; rfl)) (k40_mkM _ _ _ (⟨cl, op, va, false, 0, i, -1⟩ : S40)) (fun _ h => h.elim) (fun _ _ => trivial) hK.hO hK.hB hK.hB.size (by omega) ?_; intro v3 w3 ho3 hb3 hg3 hat3))
          go_roundg j
          case measure => omega
          case rel => exact ⟨i + 1, out ++ [⟨cl, op, va, false, 0, i, -1⟩], la.set cl.toNat (out.length : Int), (by first | rfl | (rw [hwi]; rfl)), ⟨by have := hk.out; omega⟩, hrr, by omega, hb3, hK.bg, blk_grown hK.hg hg3 (Kd.R_ne hK.hO hK.hg (by decide)), hK.hl, ho3⟩
        | false =>
          rw [if_neg (by simp)] at hrr
          by_cases hix : 0 ≤ rd la cl ∧ rd la cl < (out.length : Int)
          · rw [if_pos hix] at hrr
            obtain ⟨q1, q2⟩ := hix
            obtain ⟨b, cap, cur, rfl, hbb, hrow0⟩ := row40_of hI.hO (by omega)
            have hrow : Row40 (wr.alloc (.cells #[.int .i64 cl, .bool false, .int .i64 op, .int .i64 va] 44)) b cap out cur := ⟨blk_alloc hrow0.hb _, hrow0.hs, hrow0.hn, hrow0.hm, hrow0.hc⟩
            have n3 : b ≠ wr.heap.size := Nat.ne_of_lt (blk_lt hrow0.hb)
            have n4 : wr.heap.size ≠ b := fun e => n3 e.symm
            have n5 : w1.heap.size ≠ b := blk_ne hI.hg hrow0.hb (by decide)
            have n6 : b ≠ w1.heap.size := fun e => n5 e.symm
            obtain ⟨t, ht⟩ : ∃ t : Nat, rd la cl = t := ⟨(rd la cl).toNat, by omega⟩
            rw [ht] at q1 q2 hrr o1
            have ht2 : t < out.length := by omega
            simp only [Int.toNat_natCast] at hrr
            have B0 : (wr.alloc (.cells #[.int .i64 cl, .bool false, .int .i64 op, .int .i64 va] 44)).heap[b]? = _ := hrow.hb
            have B1 := fun v => blk_set B0 (t * 7 + 3) v
            have B2 := fun v u => blk_set (B1 v) (t * 7 + 4) u
            have f3 := (blk_cell B0 (t * 7 + 3)).trans (hrow.hc t 3 ht2 (by omega))
            have f4 := fun v => (blk_cell (B1 v) (t * 7 + 4)).trans ((Array.getElem?_setIfInBounds_ne (by omega)).trans (hrow.hc t 4 ht2 (by omega)))
            have f6 := fun v u => (blk_cell (B2 v u) (t * 7 + 6)).trans ((Array.getElem?_setIfInBounds_ne (by omega)).trans ((Array.getElem?_setIfInBounds_ne (by omega)).trans (hrow.hc t 6 ht2 (by omega))))
            have z3 := blk_frozen B0 (t * 7 + 3)
            have z4 := fun v => blk_frozen (B1 v) (t * 7 + 4)
            have z6 := fun v u => blk_frozen (B2 v u) (t * 7 + 6)
            simp only [cells40, List.getElem?_cons_succ, List.getElem?_cons_zero] at f3 f4 f6
            clear B0 B1 B2
            replace hrr := Aside0.mk hrr
            obtain ⟨cur2, hput⟩ := hrow.put t ht2 true va i
            replace hput := Aside0.mk hput
            clear hrow0
            replace hrow := Aside0.mk hrow
            go_wp2
            go_region_held3 (fun W => W.cell? ⟨wr.heap.size, 3, none⟩ = some (.int .i64 va)) (first | assumption | exact b3 | exact (World.cell?_setCell_far _ _ _ _ n3).trans (by assumption)) (fail)
            have hR := row40_to hput.out hbb
            rw [List.length_set] at hR
            have hN : Os w _ w1.heap.size _ _ la := ⟨below_drew1 (below_set (below_set (below_set hJ.hB hbb) hbb) hbb), hJ.bg, blk_drew (blk_far (blk_far (blk_far hJ.hg n5 _) n5 _) n5 _), hJ.hl, Kd.R_drew hR⟩
            go_wp2
            go_roundg j
            case measure => omega
            case rel => exact ⟨i + 1, _, la, (by first | rfl | (rw [hwi]; rfl)), ⟨by have := hk.out; omega⟩, hrr, by omega, hN⟩
          · rw [if_neg hix] at hrr; exact absurd hrr (by simp)
      · rw [if_neg hcl] at hrr; exact absurd hrr (by simp)
    · obtain rfl : i = l0.length := by omega
      have hrr := hz.out
      rw [List.drop_of_length_le (Nat.le_refl _)] at hrr
      unfold hist_Ops.l0 at hrr
      obtain rfl : out = os := by simpa using hrr
      clear hrr hz h hm ho
      go_wp2
      go_ret2
      exact ⟨_, rfl, hI.hO, hI.hB⟩
theorem hist_Ops.calls (A0 : Option Addr) (c0 : Nat) (l0 : List S44) (r1 : List S40) (r2 : Int) (w : World) (hr0 : Kd.C k44 w A0 l0.length l0) (hc0 : l0.length ≤ c0) (h : hist_Ops.f l0 = some (r1, r2)) :
    Calls Try.prog 15 #[.slice A0 l0.length c0] w fun e w' => ∃ v0_ : Value, e = .returned (.tuple #[v0_, .int .i64 r2]) ∧ Kd.R k40 40 w' w.heap.size (fun _ => True) v0_ r1 ∧ Below w.heap.size w w' := by
  unfold hist_Ops.f at h
  obtain ⟨⟨p, q⟩, hc, h⟩ := Option.bind_eq_some_iff.1 h
  dsimp only at h
  by_cases c : q = 0
  · subst c
    rw [if_pos rfl] at h
    obtain ⟨os, ho, h⟩ := Option.bind_eq_some_iff.1 h
    obtain ⟨rfl, rfl⟩ : os = r1 ∧ (0 : Int) = r2 := by simpa using h
    exact ops_main A0 c0 l0 p os w hr0 hc0 hc ho
  · rw [if_neg c] at h
    obtain ⟨rfl, rfl⟩ : [] = r1 ∧ q = r2 := by simpa using h
    refine (ops_err A0 c0 l0 p q w hr0 hc0 hc c).mono ?_
    rintro e w' ⟨rfl, hb⟩
    exact ⟨_, rfl, Kd.R_nil _ _ _ _ _, hb⟩

/-! ### inquestlaw14_lives: function 14 -/
def inquestlaw14_lives.f  : Option (Bool) := (hist_Ops.f (([(⟨0, true, 1, 5⟩ : S44)] : List (S44)))).bind fun bt114 => (if bt114.2 = 0 then (if (bt114.1.length : Int) = 1 then (if 0 < (bt114.1.length : Int) then (if ((rd_T40 bt114.1 0).f2) = 5 then (some (((rd_T40 bt114.1 0).f6) == (-1))) else (some false)) else (none)) else (some false)) else (some false))
set_option maxHeartbeats 8000000 in
set_option maxRecDepth 100000 in
theorem inquestlaw14_lives.calls  (r : Bool) (w : World) (h : inquestlaw14_lives.f  = some r) :
    Calls Try.prog 14 #[] w fun e w' => e = .returned (.bool r) ∧ Below w.heap.size w w' := by
  have hu44 := Try.underlying44
  have HB := Aside0.mk (Below.refl w.heap.size w)
  have H : ((hist_Ops.f (([(⟨0, true, 1, 5⟩ : S44)] : List (S44)))).bind fun bt114 => (if bt114.2 = 0 then (if (bt114.1.length : Int) = 1 then (if 0 < (bt114.1.length : Int) then (if ((rd_T40 bt114.1 0).f2) = 5 then (some (((rd_T40 bt114.1 0).f6) == (-1))) else (some false)) else (none)) else (some false)) else (some false))) = some r := h
  clear h
  obtain ⟨y111, hy111⟩ : ∃ y_ : List (S44), y_ = (([(⟨0, true, 1, 5⟩ : S44)] : List (S44))) := ⟨_, rfl⟩
  replace H : ((hist_Ops.f y111).bind fun bt114 => (if bt114.2 = 0 then (if (bt114.1.length : Int) = 1 then (if 0 < (bt114.1.length : Int) then (if ((rd_T40 bt114.1 0).f2) = 5 then (some (((rd_T40 bt114.1 0).f6) == (-1))) else (some false)) else (none)) else (some false)) else (some false))) = some r := by first | (rw [hy111]; with_reducible exact H) | (have H2_ := (Option.bind_some _ _).symm.trans H; rw [hy111]; with_reducible exact H2_) | (have H2_ := (Option.bind_some _ _).symm.trans H; with_reducible exact H2_) | with_reducible exact H | (rw [hy111]; exact H) | exact H
  have Ny111 := Aside0.mk hy111
  clear hy111
  replace H := Option.bind_eq_some_iff.mp H
  obtain ⟨⟨t114, t115⟩, A10, H⟩ := H
  replace H : (if t115 = 0 then (if (t114.length : Int) = 1 then (if 0 < (t114.length : Int) then (if ((rd_T40 t114 0).f2) = 5 then (some (((rd_T40 t114 0).f6) == (-1))) else (some false)) else (none)) else (some false)) else (some false)) = some r := H
  have A1 := Aside0.mk A10
  clear A10
  by_cases c2 : t115 = 0
  · rw [if_pos c2] at H
    have c2b0 : (t115 == 0) = true := beq_iff_eq.mpr c2
    have c2b1 : (t115 != 0) = false := bne_eq_false_iff_eq.mpr c2
    clear c2
    by_cases c3 : (t114.length : Int) = 1
    · rw [if_pos c3] at H
      have c3b0 : ((t114.length : Int) == 1) = true := beq_iff_eq.mpr c3
      have c3b1 : ((t114.length : Int) != 1) = false := bne_eq_false_iff_eq.mpr c3
      clear c3
      by_cases c4 : 0 < (t114.length : Int)
      · rw [if_pos c4] at H
        have c4b0 : decide (0 < (t114.length : Int)) = true := decide_eq_true c4
        have c4b1 : decide (0 < t114.length) = true := decide_eq_true (by omega)
        clear c4
        by_cases c5 : ((rd_T40 t114 0).f2) = 5
        · rw [if_pos c5] at H
          have c5b0 : (((rd_T40 t114 0).f2) == 5) = true := beq_iff_eq.mpr c5
          have c5b1 : (((rd_T40 t114 0).f2) != 5) = false := bne_eq_false_iff_eq.mpr c5
          clear c5
          obtain rfl := Option.some.inj H
          go_enter Try.func14, Try.ntmps14
          go_wp2_with (first | ((with_reducible refine gate_dst (N := 5) rfl ?_); (try (refine gate_guard (by rfl) ?_; dsimp only)); refine Kd.R_lit k44 _ 44 ?hg (N := 5) ?hd (xs := ([(⟨0, true, 1, 5⟩ : S44)] : List (S44))) (inner := [.int .i64 0, .bool true, .int .i64 1, .int .i64 5]) (ok := fun _ => True) (okp := fun _ => True) ?hr ?hp (fun _ hk => hk) trivial (Below.refl _ _) (Nat.le_refl _) (by simp) ?_; (case hd => rfl); (case hg => rfl); (case hr => first | (go_simp; done) | (go_simp; rfl)); (case hp => exact (Reps.c4 (show Kd.M k44 _ _ _ (⟨0, true, 1, 5⟩ : S44) [.int .i64 0, .bool true, .int .i64 1, .int .i64 5] from (k44_mkM _ _ _ (⟨0, true, 1, 5⟩ : S44) )) (Reps.none _ _))); intro v112 w6 ho7 hb hg_ hnew_; clear hg_ hnew_; (first | rw [← Ny111.out] at ho7 | (simp only [Int.reduceToNat] at ho7; rw [← Ny111.out] at ho7)); have n0_ := Aside0.mk (Kd.R_lower ho7 (below_size (by repeat (first | (with_reducible first | exact HB.out | apply below_alloc | apply pw_below_drewN | apply below_drew1) | exact HB.out)))); have n1_ := Aside0.mk (below_step (by repeat (first | (with_reducible first | exact HB.out | apply below_alloc | apply pw_below_drewN | apply below_drew1) | exact HB.out)) hb); clear HB; have HO113 := n0_; have HB := n1_; clear n0_ n1_; clear hb ho7; obtain ⟨Ao8, co8, eo8⟩ := Kd.R_slice HO113.out; subst eo8) | ((with_reducible refine gate_callee (f := 15) rfl ?_); refine goesL_ (some 6) rfl rfl Try.func15 (by kernel_rfl) rfl #[.slice Ao8 y111.length co8] rfl (by (try simp only [List.map_toArray, List.map_cons, List.map_nil]); first | done | rfl | (simp only [List.length_drop, List.length_take]; rfl)) ?_; (with_reducible refine (hist_Ops.calls _ _ y111 t114 t115 _ ?side1 ?side2 A1.out).mono ?_); (case side1 => repeat (first | exact (Kd.R_reads' HO113.out).2.2 | (with_reducible refine Kd.C_alloc ?_ _) | (with_reducible refine Kd.C_drewN ?_ _) | (with_reducible refine Kd.C_drew ?_))); (case side2 => exact (Kd.R_reads' HO113.out).2.1); rintro e w9 ⟨v116, rfl, ho0, hb⟩; refine ⟨_, rfl, ?_⟩; have n0_ := Aside0.mk (Kd.R_below (by (with_reducible repeat (first | apply Kd.R_alloc | apply Kd.R_drewN | apply Kd.R_drew)); exact HO113.out) hb); have n1_ := Aside0.mk (Kd.R_lower ho0 (below_size (by repeat (first | (with_reducible first | exact HB.out | apply below_alloc | apply pw_below_drewN | apply below_drew1) | exact HB.out)))); have n2_ := Aside0.mk (below_step (by repeat (first | (with_reducible first | exact HB.out | apply below_alloc | apply pw_below_drewN | apply below_drew1) | exact HB.out)) hb); clear HO113; clear HB; have HO113 := n0_; have HO117 := n1_; have HB := n2_; clear n0_ n1_ n2_; (try clear hb); (try clear hb2); (try clear hk); (try clear hi); (try clear ho0); obtain ⟨Ao10, co10, eo10⟩ := Kd.R_slice HO117.out; subst eo10; have p118 : 0 ≤ (0 : Int) := (by omega); have q118 : 0 < (t114.length : Int) := of_decide_eq_true (by first | (with_reducible assumption) | assumption); obtain ⟨ad118, e118, hx118_0, hx118_1, hx118_2, hx118_3, hx118_4, hx118_5, hx118_6⟩ := at_T40 (Kd.R_reads' HO117.out).2.2 0 p118 q118; cases e118; have qi118 : (0 < t114.length) = True := eq_true (by omega); (try rw [show ((0 : Int)).toNat = 0 from rfl] at hx118_0); (try rw [show 0 * 7 = 0 from rfl] at hx118_0); (try rw [Addr.add_zero'] at hx118_0); (try rw [show ((0 : Int)).toNat = 0 from rfl] at hx118_1); (try rw [show 0 * 7 = 0 from rfl] at hx118_1); (try rw [Addr.add_zero'] at hx118_1); (try rw [show ((0 : Int)).toNat = 0 from rfl] at hx118_2); (try rw [show 0 * 7 = 0 from rfl] at hx118_2); (try rw [Addr.add_zero'] at hx118_2); (try rw [show ((0 : Int)).toNat = 0 from rfl] at hx118_3); (try rw [show 0 * 7 = 0 from rfl] at hx118_3); (try rw [Addr.add_zero'] at hx118_3); (try rw [show ((0 : Int)).toNat = 0 from rfl] at hx118_4); (try rw [show 0 * 7 = 0 from rfl] at hx118_4); (try rw [Addr.add_zero'] at hx118_4); (try rw [show ((0 : Int)).toNat = 0 from rfl] at hx118_5); (try rw [show 0 * 7 = 0 from rfl] at hx118_5); (try rw [Addr.add_zero'] at hx118_5); (try rw [show ((0 : Int)).toNat = 0 from rfl] at hx118_6); (try rw [show 0 * 7 = 0 from rfl] at hx118_6); (try rw [Addr.add_zero'] at hx118_6); replace p118 := eq_true p118; replace q118 := eq_true q118; have p119 : 0 ≤ (0 : Int) := (by omega); have q119 : 0 < (t114.length : Int) := of_decide_eq_true (by first | (with_reducible assumption) | assumption); obtain ⟨ad119, e119, hx119_0, hx119_1, hx119_2, hx119_3, hx119_4, hx119_5, hx119_6⟩ := at_T40 (Kd.R_reads' HO117.out).2.2 0 p119 q119; obtain rfl : ad118 = ad119 := (by injection e119); have qi119 : (0 < t114.length) = True := eq_true (by omega); (try rw [show ((0 : Int)).toNat = 0 from rfl] at hx119_0); (try rw [show 0 * 7 = 0 from rfl] at hx119_0); (try rw [Addr.add_zero'] at hx119_0); (try rw [show ((0 : Int)).toNat = 0 from rfl] at hx119_1); (try rw [show 0 * 7 = 0 from rfl] at hx119_1); (try rw [Addr.add_zero'] at hx119_1); (try rw [show ((0 : Int)).toNat = 0 from rfl] at hx119_2); (try rw [show 0 * 7 = 0 from rfl] at hx119_2); (try rw [Addr.add_zero'] at hx119_2); (try rw [show ((0 : Int)).toNat = 0 from rfl] at hx119_3); (try rw [show 0 * 7 = 0 from rfl] at hx119_3); (try rw [Addr.add_zero'] at hx119_3); (try rw [show ((0 : Int)).toNat = 0 from rfl] at hx119_4); (try rw [show 0 * 7 = 0 from rfl] at hx119_4); (try rw [Addr.add_zero'] at hx119_4); (try rw [show ((0 : Int)).toNat = 0 from rfl] at hx119_5); (try rw [show 0 * 7 = 0 from rfl] at hx119_5); (try rw [Addr.add_zero'] at hx119_5); (try rw [show ((0 : Int)).toNat = 0 from rfl] at hx119_6); (try rw [show 0 * 7 = 0 from rfl] at hx119_6); (try rw [Addr.add_zero'] at hx119_6); replace p119 := eq_true p119; replace q119 := eq_true q119))
          go_ret
          exact ⟨by first | rfl | (simp [errW_none, errW_some] <;> rfl) | (simp [*, errW_none, errW_some] <;> rfl), by repeat (first | (with_reducible first | exact HB.out | apply below_alloc | apply pw_below_drewN | apply below_drew1) | exact HB.out)⟩
        · rw [if_neg c5] at H
          have c5b0 : (((rd_T40 t114 0).f2) == 5) = false := beq_eq_false_iff_ne.mpr c5
          have c5b1 : (((rd_T40 t114 0).f2) != 5) = true := bne_iff_ne.mpr c5
          obtain rfl := Option.some.inj H
          go_enter Try.func14, Try.ntmps14
          go_wp2_with (first | ((with_reducible refine gate_dst (N := 5) rfl ?_); (try (refine gate_guard (by rfl) ?_; dsimp only)); refine Kd.R_lit k44 _ 44 ?hg (N := 5) ?hd (xs := ([(⟨0, true, 1, 5⟩ : S44)] : List (S44))) (inner := [.int .i64 0, .bool true, .int .i64 1, .int .i64 5]) (ok := fun _ => True) (okp := fun _ => True) ?hr ?hp (fun _ hk => hk) trivial (Below.refl _ _) (Nat.le_refl _) (by simp) ?_; (case hd => rfl); (case hg => rfl); (case hr => first | (go_simp; done) | (go_simp; rfl)); (case hp => exact (Reps.c4 (show Kd.M k44 _ _ _ (⟨0, true, 1, 5⟩ : S44) [.int .i64 0, .bool true, .int .i64 1, .int .i64 5] from (k44_mkM _ _ _ (⟨0, true, 1, 5⟩ : S44) )) (Reps.none _ _))); intro v112 w11 ho12 hb hg_ hnew_; clear hg_ hnew_; (first | rw [← Ny111.out] at ho12 | (simp only [Int.reduceToNat] at ho12; rw [← Ny111.out] at ho12)); have n0_ := Aside0.mk (Kd.R_lower ho12 (below_size (by repeat (first | (with_reducible first | exact HB.out | apply below_alloc | apply pw_below_drewN | apply below_drew1) | exact HB.out)))); have n1_ := Aside0.mk (below_step (by repeat (first | (with_reducible first | exact HB.out | apply below_alloc | apply pw_below_drewN | apply below_drew1) | exact HB.out)) hb); clear HB; have HO113 := n0_; have HB := n1_; clear n0_ n1_; clear hb ho12; obtain ⟨Ao13, co13, eo13⟩ := Kd.R_slice HO113.out; subst eo13) | ((with_reducible refine gate_callee (f := 15) rfl ?_); refine goesL_ (some 6) rfl rfl Try.func15 (by kernel_rfl) rfl #[.slice Ao13 y111.length co13] rfl (by (try simp only [List.map_toArray, List.map_cons, List.map_nil]); first | done | rfl | (simp only [List.length_drop, List.length_take]; rfl)) ?_; (with_reducible refine (hist_Ops.calls _ _ y111 t114 t115 _ ?side1 ?side2 A1.out).mono ?_); (case side1 => repeat (first | exact (Kd.R_reads' HO113.out).2.2 | (with_reducible refine Kd.C_alloc ?_ _) | (with_reducible refine Kd.C_drewN ?_ _) | (with_reducible refine Kd.C_drew ?_))); (case side2 => exact (Kd.R_reads' HO113.out).2.1); rintro e w14 ⟨v116, rfl, ho0, hb⟩; refine ⟨_, rfl, ?_⟩; have n0_ := Aside0.mk (Kd.R_below (by (with_reducible repeat (first | apply Kd.R_alloc | apply Kd.R_drewN | apply Kd.R_drew)); exact HO113.out) hb); have n1_ := Aside0.mk (Kd.R_lower ho0 (below_size (by repeat (first | (with_reducible first | exact HB.out | apply below_alloc | apply pw_below_drewN | apply below_drew1) | exact HB.out)))); have n2_ := Aside0.mk (below_step (by repeat (first | (with_reducible first | exact HB.out | apply below_alloc | apply pw_below_drewN | apply below_drew1) | exact HB.out)) hb); clear HO113; clear HB; have HO113 := n0_; have HO117 := n1_; have HB := n2_; clear n0_ n1_ n2_; (try clear hb); (try clear hb2); (try clear hk); (try clear hi); (try clear ho0); obtain ⟨Ao15, co15, eo15⟩ := Kd.R_slice HO117.out; subst eo15; have p118 : 0 ≤ (0 : Int) := (by omega); have q118 : 0 < (t114.length : Int) := of_decide_eq_true (by first | (with_reducible assumption) | assumption); obtain ⟨ad118, e118, hx118_0, hx118_1, hx118_2, hx118_3, hx118_4, hx118_5, hx118_6⟩ := at_T40 (Kd.R_reads' HO117.out).2.2 0 p118 q118; cases e118; have qi118 : (0 < t114.length) = True := eq_true (by omega); (try rw [show ((0 : Int)).toNat = 0 from rfl] at hx118_0); (try rw [show 0 * 7 = 0 from rfl] at hx118_0); (try rw [Addr.add_zero'] at hx118_0); (try rw [show ((0 : Int)).toNat = 0 from rfl] at hx118_1); (try rw [show 0 * 7 = 0 from rfl] at hx118_1); (try rw [Addr.add_zero'] at hx118_1); (try rw [show ((0 : Int)).toNat = 0 from rfl] at hx118_2); (try rw [show 0 * 7 = 0 from rfl] at hx118_2); (try rw [Addr.add_zero'] at hx118_2); (try rw [show ((0 : Int)).toNat = 0 from rfl] at hx118_3); (try rw [show 0 * 7 = 0 from rfl] at hx118_3); (try rw [Addr.add_zero'] at hx118_3); (try rw [show ((0 : Int)).toNat = 0 from rfl] at hx118_4); (try rw [show 0 * 7 = 0 from rfl] at hx118_4); (try rw [Addr.add_zero'] at hx118_4); (try rw [show ((0 : Int)).toNat = 0 from rfl] at hx118_5); (try rw [show 0 * 7 = 0 from rfl] at hx118_5); (try rw [Addr.add_zero'] at hx118_5); (try rw [show ((0 : Int)).toNat = 0 from rfl] at hx118_6); (try rw [show 0 * 7 = 0 from rfl] at hx118_6); (try rw [Addr.add_zero'] at hx118_6); replace p118 := eq_true p118; replace q118 := eq_true q118))
          go_ret
          exact ⟨by first | rfl | (simp [errW_none, errW_some] <;> rfl) | (simp [*, errW_none, errW_some] <;> rfl), by repeat (first | (with_reducible first | exact HB.out | apply below_alloc | apply pw_below_drewN | apply below_drew1) | exact HB.out)⟩
      · rw [if_neg c4] at H
        exact absurd H (by simp)
    · rw [if_neg c3] at H
      have c3b0 : ((t114.length : Int) == 1) = false := beq_eq_false_iff_ne.mpr c3
      have c3b1 : ((t114.length : Int) != 1) = true := bne_iff_ne.mpr c3
      obtain rfl := Option.some.inj H
      go_enter Try.func14, Try.ntmps14
      go_wp2_with (first | ((with_reducible refine gate_dst (N := 5) rfl ?_); (try (refine gate_guard (by rfl) ?_; dsimp only)); refine Kd.R_lit k44 _ 44 ?hg (N := 5) ?hd (xs := ([(⟨0, true, 1, 5⟩ : S44)] : List (S44))) (inner := [.int .i64 0, .bool true, .int .i64 1, .int .i64 5]) (ok := fun _ => True) (okp := fun _ => True) ?hr ?hp (fun _ hk => hk) trivial (Below.refl _ _) (Nat.le_refl _) (by simp) ?_; (case hd => rfl); (case hg => rfl); (case hr => first | (go_simp; done) | (go_simp; rfl)); (case hp => exact (Reps.c4 (show Kd.M k44 _ _ _ (⟨0, true, 1, 5⟩ : S44) [.int .i64 0, .bool true, .int .i64 1, .int .i64 5] from (k44_mkM _ _ _ (⟨0, true, 1, 5⟩ : S44) )) (Reps.none _ _))); intro v112 w16 ho17 hb hg_ hnew_; clear hg_ hnew_; (first | rw [← Ny111.out] at ho17 | (simp only [Int.reduceToNat] at ho17; rw [← Ny111.out] at ho17)); have n0_ := Aside0.mk (Kd.R_lower ho17 (below_size (by repeat (first | (with_reducible first | exact HB.out | apply below_alloc | apply pw_below_drewN | apply below_drew1) | exact HB.out)))); have n1_ := Aside0.mk (below_step (by repeat (first | (with_reducible first | exact HB.out | apply below_alloc | apply pw_below_drewN | apply below_drew1) | exact HB.out)) hb); clear HB; have HO113 := n0_; have HB := n1_; clear n0_ n1_; clear hb ho17; obtain ⟨Ao18, co18, eo18⟩ := Kd.R_slice HO113.out; subst eo18) | ((with_reducible refine gate_callee (f := 15) rfl ?_); refine goesL_ (some 6) rfl rfl Try.func15 (by kernel_rfl) rfl #[.slice Ao18 y111.length co18] rfl (by (try simp only [List.map_toArray, List.map_cons, List.map_nil]); first | done | rfl | (simp only [List.length_drop, List.length_take]; rfl)) ?_; (with_reducible refine (hist_Ops.calls _ _ y111 t114 t115 _ ?side1 ?side2 A1.out).mono ?_); (case side1 => repeat (first | exact (Kd.R_reads' HO113.out).2.2 | (with_reducible refine Kd.C_alloc ?_ _) | (with_reducible refine Kd.C_drewN ?_ _) | (with_reducible refine Kd.C_drew ?_))); (case side2 => exact (Kd.R_reads' HO113.out).2.1); rintro e w19 ⟨v116, rfl, ho0, hb⟩; refine ⟨_, rfl, ?_⟩; have n0_ := Aside0.mk (Kd.R_below (by (with_reducible repeat (first | apply Kd.R_alloc | apply Kd.R_drewN | apply Kd.R_drew)); exact HO113.out) hb); have n1_ := Aside0.mk (Kd.R_lower ho0 (below_size (by repeat (first | (with_reducible first | exact HB.out | apply below_alloc | apply pw_below_drewN | apply below_drew1) | exact HB.out)))); have n2_ := Aside0.mk (below_step (by repeat (first | (with_reducible first | exact HB.out | apply below_alloc | apply pw_below_drewN | apply below_drew1) | exact HB.out)) hb); clear HO113; clear HB; have HO113 := n0_; have HO117 := n1_; have HB := n2_; clear n0_ n1_ n2_; (try clear hb); (try clear hb2); (try clear hk); (try clear hi); (try clear ho0); obtain ⟨Ao20, co20, eo20⟩ := Kd.R_slice HO117.out; subst eo20))
      go_ret
      exact ⟨by first | rfl | (simp [errW_none, errW_some] <;> rfl) | (simp [*, errW_none, errW_some] <;> rfl), by repeat (first | (with_reducible first | exact HB.out | apply below_alloc | apply pw_below_drewN | apply below_drew1) | exact HB.out)⟩
  · rw [if_neg c2] at H
    have c2b0 : (t115 == 0) = false := beq_eq_false_iff_ne.mpr c2
    have c2b1 : (t115 != 0) = true := bne_iff_ne.mpr c2
    obtain rfl := Option.some.inj H
    go_enter Try.func14, Try.ntmps14
    go_wp2_with (first | ((with_reducible refine gate_dst (N := 5) rfl ?_); (try (refine gate_guard (by rfl) ?_; dsimp only)); refine Kd.R_lit k44 _ 44 ?hg (N := 5) ?hd (xs := ([(⟨0, true, 1, 5⟩ : S44)] : List (S44))) (inner := [.int .i64 0, .bool true, .int .i64 1, .int .i64 5]) (ok := fun _ => True) (okp := fun _ => True) ?hr ?hp (fun _ hk => hk) trivial (Below.refl _ _) (Nat.le_refl _) (by simp) ?_; (case hd => rfl); (case hg => rfl); (case hr => first | (go_simp; done) | (go_simp; rfl)); (case hp => exact (Reps.c4 (show Kd.M k44 _ _ _ (⟨0, true, 1, 5⟩ : S44) [.int .i64 0, .bool true, .int .i64 1, .int .i64 5] from (k44_mkM _ _ _ (⟨0, true, 1, 5⟩ : S44) )) (Reps.none _ _))); intro v112 w21 ho22 hb hg_ hnew_; clear hg_ hnew_; (first | rw [← Ny111.out] at ho22 | (simp only [Int.reduceToNat] at ho22; rw [← Ny111.out] at ho22)); have n0_ := Aside0.mk (Kd.R_lower ho22 (below_size (by repeat (first | (with_reducible first | exact HB.out | apply below_alloc | apply pw_below_drewN | apply below_drew1) | exact HB.out)))); have n1_ := Aside0.mk (below_step (by repeat (first | (with_reducible first | exact HB.out | apply below_alloc | apply pw_below_drewN | apply below_drew1) | exact HB.out)) hb); clear HB; have HO113 := n0_; have HB := n1_; clear n0_ n1_; clear hb ho22; obtain ⟨Ao23, co23, eo23⟩ := Kd.R_slice HO113.out; subst eo23) | ((with_reducible refine gate_callee (f := 15) rfl ?_); refine goesL_ (some 6) rfl rfl Try.func15 (by kernel_rfl) rfl #[.slice Ao23 y111.length co23] rfl (by (try simp only [List.map_toArray, List.map_cons, List.map_nil]); first | done | rfl | (simp only [List.length_drop, List.length_take]; rfl)) ?_; (with_reducible refine (hist_Ops.calls _ _ y111 t114 t115 _ ?side1 ?side2 A1.out).mono ?_); (case side1 => repeat (first | exact (Kd.R_reads' HO113.out).2.2 | (with_reducible refine Kd.C_alloc ?_ _) | (with_reducible refine Kd.C_drewN ?_ _) | (with_reducible refine Kd.C_drew ?_))); (case side2 => exact (Kd.R_reads' HO113.out).2.1); rintro e w24 ⟨v116, rfl, ho0, hb⟩; refine ⟨_, rfl, ?_⟩; have n0_ := Aside0.mk (Kd.R_below (by (with_reducible repeat (first | apply Kd.R_alloc | apply Kd.R_drewN | apply Kd.R_drew)); exact HO113.out) hb); have n1_ := Aside0.mk (Kd.R_lower ho0 (below_size (by repeat (first | (with_reducible first | exact HB.out | apply below_alloc | apply pw_below_drewN | apply below_drew1) | exact HB.out)))); have n2_ := Aside0.mk (below_step (by repeat (first | (with_reducible first | exact HB.out | apply below_alloc | apply pw_below_drewN | apply below_drew1) | exact HB.out)) hb); clear HO113; clear HB; have HO113 := n0_; have HO117 := n1_; have HB := n2_; clear n0_ n1_ n2_; (try clear hb); (try clear hb2); (try clear hk); (try clear hi); (try clear ho0)))
    go_ret
    exact ⟨by first | rfl | (simp [errW_none, errW_some] <;> rfl) | (simp [*, errW_none, errW_some] <;> rfl), by repeat (first | (with_reducible first | exact HB.out | apply below_alloc | apply pw_below_drewN | apply below_drew1) | exact HB.out)⟩

/-! ### hist_Before: function 19 -/
def hist_Before.f (a0_0 : Int) (a0_1 : Int) (a0_2 : Int) (a0_3 : Bool) (a0_4 : Int) (a0_5 : Int) (a0_6 : Int) (a1_0 : Int) (a1_1 : Int) (a1_2 : Int) (a1_3 : Bool) (a1_4 : Int) (a1_5 : Int) (a1_6 : Int) : Option (Bool) := if a0_3 = true then (some (decide (a0_6 < a1_5))) else (some false)
set_option maxHeartbeats 8000000 in
set_option maxRecDepth 100000 in
theorem hist_Before.calls (a0_0 : Int) (a0_1 : Int) (a0_2 : Int) (a0_3 : Bool) (a0_4 : Int) (a0_5 : Int) (a0_6 : Int) (a1_0 : Int) (a1_1 : Int) (a1_2 : Int) (a1_3 : Bool) (a1_4 : Int) (a1_5 : Int) (a1_6 : Int) (r : Bool) (w : World) (h : hist_Before.f a0_0 a0_1 a0_2 a0_3 a0_4 a0_5 a0_6 a1_0 a1_1 a1_2 a1_3 a1_4 a1_5 a1_6 = some r) :
    Calls Try.prog 19 #[.agg #[.int .i64 a0_0, .int .i64 a0_1, .int .i64 a0_2, .bool a0_3, .int .i64 a0_4, .int .i64 a0_5, .int .i64 a0_6], .agg #[.int .i64 a1_0, .int .i64 a1_1, .int .i64 a1_2, .bool a1_3, .int .i64 a1_4, .int .i64 a1_5, .int .i64 a1_6]] w fun e w' => e = .returned (.bool r) ∧ Below w.heap.size w w' := by
  have hu40 := Try.underlying40
  have HB := Aside0.mk (Below.refl w.heap.size w)
  have H : (if a0_3 = true then (some (decide (a0_6 < a1_5))) else (some false)) = some r := h
  clear h
  by_cases c3 : a0_3 = true
  · subst c3
    have H1 : (some (decide (a0_6 < a1_5))) = some r := by rw [if_pos rfl] at H; exact H
    clear H
    have H := H1
    clear H1
    obtain rfl := Option.some.inj H
    go_enter Try.func19, Try.ntmps19
    go_wp2_with (first | ((with_reducible refine gate_dst (N := 2) rfl ?_); refine box_event ?hg (N := 2) ?hd (cs := #[.int .i64 a0_0, .int .i64 a0_1, .int .i64 a0_2, .bool true, .int .i64 a0_4, .int .i64 a0_5, .int .i64 a0_6]) (t := 40) ?hr ?_; (case hd => rfl); (case hg => rfl); (case hr => first | (go_simp; done) | (go_simp; rfl)); intro gb120 hg w4 hbox hb; have n0_ := Aside0.mk (below_step (by repeat (first | (with_reducible first | exact HB.out | apply below_alloc | apply pw_below_drewN | apply below_drew1) | exact HB.out)) hb); have n1_ := Aside0.mk (hbox); have n2_ := Aside0.mk ((by rw [hg]; exact (below_size (by repeat (first | (with_reducible first | exact HB.out | apply below_alloc | apply pw_below_drewN | apply below_drew1) | exact HB.out))) : w.heap.size ≤ gb120)); have n3_ := Aside0.mk ((by rw [hg]; exact (below_size (by repeat (first | (with_reducible first | exact HB.out | apply below_alloc | apply pw_below_drewN | apply below_drew1) | exact HB.out))) : w.heap.size ≤ gb120)); clear HB; have HB := n0_; have BK120 := n1_; have GW120 := n2_; have GE120 := n3_; clear n0_ n1_ n2_ n3_; clear hb hbox hg) | ((with_reducible refine gate_dst (N := 3) rfl ?_); refine box_event ?hg (N := 3) ?hd (cs := #[.int .i64 a1_0, .int .i64 a1_1, .int .i64 a1_2, .bool a1_3, .int .i64 a1_4, .int .i64 a1_5, .int .i64 a1_6]) (t := 40) ?hr ?_; (case hd => rfl); (case hg => rfl); (case hr => first | (go_simp; done) | (go_simp; rfl)); intro gb121 hg w5 hbox hb; have n0_ := Aside0.mk (blk_below (g := gb120) (o := .cells #[.int .i64 a0_0, .int .i64 a0_1, .int .i64 a0_2, .bool true, .int .i64 a0_4, .int .i64 a0_5, .int .i64 a0_6] 40 (0, 0)) (by (with_reducible repeat (first | refine blk_drewN ?_ _ | refine blk_drew ?_ | refine blk_alloc ?_ _)); exact BK120.out) hb); have n1_ := Aside0.mk (below_step (by repeat (first | (with_reducible first | exact HB.out | apply below_alloc | apply pw_below_drewN | apply below_drew1 | refine below_set ?_ GE120.out) | exact HB.out)) hb); have n2_ := Aside0.mk (hbox); have n3_ := Aside0.mk ((by rw [hg]; exact (below_size (by repeat (first | (with_reducible first | exact HB.out | apply below_alloc | apply pw_below_drewN | apply below_drew1 | refine below_set ?_ GE120.out) | exact HB.out))) : w.heap.size ≤ gb121)); have n4_ := Aside0.mk ((by rw [hg]; exact (below_size (by repeat (first | (with_reducible first | exact HB.out | apply below_alloc | apply pw_below_drewN | apply below_drew1 | refine below_set ?_ GE120.out) | exact HB.out))) : w.heap.size ≤ gb121)); have n5_ := Aside0.mk ((by rw [hg]; exact Nat.ne_of_lt (blk_lt (g := gb120) (o := .cells #[.int .i64 a0_0, .int .i64 a0_1, .int .i64 a0_2, .bool true, .int .i64 a0_4, .int .i64 a0_5, .int .i64 a0_6] 40 (0, 0)) (by (with_reducible repeat (first | refine blk_drewN ?_ _ | refine blk_drew ?_ | refine blk_alloc ?_ _)); exact BK120.out)) : gb120 ≠ gb121)); have n6_ := Aside0.mk ((by rw [hg]; exact Nat.ne_of_gt (blk_lt (g := gb120) (o := .cells #[.int .i64 a0_0, .int .i64 a0_1, .int .i64 a0_2, .bool true, .int .i64 a0_4, .int .i64 a0_5, .int .i64 a0_6] 40 (0, 0)) (by (with_reducible repeat (first | refine blk_drewN ?_ _ | refine blk_drew ?_ | refine blk_alloc ?_ _)); exact BK120.out)) : gb121 ≠ gb120)); clear BK120; clear HB; have BK120 := n0_; have HB := n1_; have BK121 := n2_; have GW121 := n3_; have GE121 := n4_; have NB120_121 := n5_; have NB121_120 := n6_; clear n0_ n1_ n2_ n3_ n4_ n5_ n6_; clear hb hbox hg; have hnb6 := NB120_121.out; have hnc6 := NB121_120.out; have hcz7_0 : w5.cell? ⟨gb120, 0, none⟩ = some (.int .i64 a0_0) := (blk_cell BK120.out 0).trans rfl; have hcz7_1 : w5.cell? ⟨gb120, 1, none⟩ = some (.int .i64 a0_1) := (blk_cell BK120.out 1).trans rfl; have hcz7_2 : w5.cell? ⟨gb120, 2, none⟩ = some (.int .i64 a0_2) := (blk_cell BK120.out 2).trans rfl; have hcz7_3 : w5.cell? ⟨gb120, 3, none⟩ = some (.bool true) := (blk_cell BK120.out 3).trans rfl; have hcz7_4 : w5.cell? ⟨gb120, 4, none⟩ = some (.int .i64 a0_4) := (blk_cell BK120.out 4).trans rfl; have hcz7_5 : w5.cell? ⟨gb120, 5, none⟩ = some (.int .i64 a0_5) := (blk_cell BK120.out 5).trans rfl; have hcz7_6 : w5.cell? ⟨gb120, 6, none⟩ = some (.int .i64 a0_6) := (blk_cell BK120.out 6).trans rfl; have hfz7_0 := blk_frozen BK120.out 0; have hfz7_1 := blk_frozen BK120.out 1; have hfz7_2 := blk_frozen BK120.out 2; have hfz7_3 := blk_frozen BK120.out 3; have hfz7_4 := blk_frozen BK120.out 4; have hfz7_5 := blk_frozen BK120.out 5; have hfz7_6 := blk_frozen BK120.out 6; have hcz8_0 : w5.cell? ⟨gb121, 0, none⟩ = some (.int .i64 a1_0) := (blk_cell BK121.out 0).trans rfl; have hcz8_1 : w5.cell? ⟨gb121, 1, none⟩ = some (.int .i64 a1_1) := (blk_cell BK121.out 1).trans rfl; have hcz8_2 : w5.cell? ⟨gb121, 2, none⟩ = some (.int .i64 a1_2) := (blk_cell BK121.out 2).trans rfl; have hcz8_3 : w5.cell? ⟨gb121, 3, none⟩ = some (.bool a1_3) := (blk_cell BK121.out 3).trans rfl; have hcz8_4 : w5.cell? ⟨gb121, 4, none⟩ = some (.int .i64 a1_4) := (blk_cell BK121.out 4).trans rfl; have hcz8_5 : w5.cell? ⟨gb121, 5, none⟩ = some (.int .i64 a1_5) := (blk_cell BK121.out 5).trans rfl; have hcz8_6 : w5.cell? ⟨gb121, 6, none⟩ = some (.int .i64 a1_6) := (blk_cell BK121.out 6).trans rfl; have hfz8_0 := blk_frozen BK121.out 0; have hfz8_1 := blk_frozen BK121.out 1; have hfz8_2 := blk_frozen BK121.out 2; have hfz8_3 := blk_frozen BK121.out 3; have hfz8_4 := blk_frozen BK121.out 4; have hfz8_5 := blk_frozen BK121.out 5; have hfz8_6 := blk_frozen BK121.out 6))
    go_ret
    exact ⟨by first | rfl | (simp [errW_none, errW_some] <;> rfl) | (simp [*, errW_none, errW_some] <;> rfl), by repeat (first | (with_reducible first | exact HB.out | apply below_alloc | apply pw_below_drewN | apply below_drew1 | refine below_set ?_ GE120.out | refine below_set ?_ GE121.out) | exact HB.out)⟩
  · replace c3 := Bool.eq_false_iff.mpr c3
    subst c3
    have H1 : (some false) = some r := by rw [if_neg (show ¬ (false = true) by decide)] at H; exact H
    clear H
    have H := H1
    clear H1
    obtain rfl := Option.some.inj H
    go_enter Try.func19, Try.ntmps19
    go_wp2_with (first | ((with_reducible refine gate_dst (N := 2) rfl ?_); refine box_event ?hg (N := 2) ?hd (cs := #[.int .i64 a0_0, .int .i64 a0_1, .int .i64 a0_2, .bool false, .int .i64 a0_4, .int .i64 a0_5, .int .i64 a0_6]) (t := 40) ?hr ?_; (case hd => rfl); (case hg => rfl); (case hr => first | (go_simp; done) | (go_simp; rfl)); intro gb120 hg w9 hbox hb; have n0_ := Aside0.mk (below_step (by repeat (first | (with_reducible first | exact HB.out | apply below_alloc | apply pw_below_drewN | apply below_drew1) | exact HB.out)) hb); have n1_ := Aside0.mk (hbox); have n2_ := Aside0.mk ((by rw [hg]; exact (below_size (by repeat (first | (with_reducible first | exact HB.out | apply below_alloc | apply pw_below_drewN | apply below_drew1) | exact HB.out))) : w.heap.size ≤ gb120)); have n3_ := Aside0.mk ((by rw [hg]; exact (below_size (by repeat (first | (with_reducible first | exact HB.out | apply below_alloc | apply pw_below_drewN | apply below_drew1) | exact HB.out))) : w.heap.size ≤ gb120)); clear HB; have HB := n0_; have BK120 := n1_; have GW120 := n2_; have GE120 := n3_; clear n0_ n1_ n2_ n3_; clear hb hbox hg) | ((with_reducible refine gate_dst (N := 3) rfl ?_); refine box_event ?hg (N := 3) ?hd (cs := #[.int .i64 a1_0, .int .i64 a1_1, .int .i64 a1_2, .bool a1_3, .int .i64 a1_4, .int .i64 a1_5, .int .i64 a1_6]) (t := 40) ?hr ?_; (case hd => rfl); (case hg => rfl); (case hr => first | (go_simp; done) | (go_simp; rfl)); intro gb121 hg w10 hbox hb; have n0_ := Aside0.mk (blk_below (g := gb120) (o := .cells #[.int .i64 a0_0, .int .i64 a0_1, .int .i64 a0_2, .bool false, .int .i64 a0_4, .int .i64 a0_5, .int .i64 a0_6] 40 (0, 0)) (by (with_reducible repeat (first | refine blk_drewN ?_ _ | refine blk_drew ?_ | refine blk_alloc ?_ _)); exact BK120.out) hb); have n1_ := Aside0.mk (below_step (by repeat (first | (with_reducible first | exact HB.out | apply below_alloc | apply pw_below_drewN | apply below_drew1 | refine below_set ?_ GE120.out) | exact HB.out)) hb); have n2_ := Aside0.mk (hbox); have n3_ := Aside0.mk ((by rw [hg]; exact (below_size (by repeat (first | (with_reducible first | exact HB.out | apply below_alloc | apply pw_below_drewN | apply below_drew1 | refine below_set ?_ GE120.out) | exact HB.out))) : w.heap.size ≤ gb121)); have n4_ := Aside0.mk ((by rw [hg]; exact (below_size (by repeat (first | (with_reducible first | exact HB.out | apply below_alloc | apply pw_below_drewN | apply below_drew1 | refine below_set ?_ GE120.out) | exact HB.out))) : w.heap.size ≤ gb121)); have n5_ := Aside0.mk ((by rw [hg]; exact Nat.ne_of_lt (blk_lt (g := gb120) (o := .cells #[.int .i64 a0_0, .int .i64 a0_1, .int .i64 a0_2, .bool false, .int .i64 a0_4, .int .i64 a0_5, .int .i64 a0_6] 40 (0, 0)) (by (with_reducible repeat (first | refine blk_drewN ?_ _ | refine blk_drew ?_ | refine blk_alloc ?_ _)); exact BK120.out)) : gb120 ≠ gb121)); have n6_ := Aside0.mk ((by rw [hg]; exact Nat.ne_of_gt (blk_lt (g := gb120) (o := .cells #[.int .i64 a0_0, .int .i64 a0_1, .int .i64 a0_2, .bool false, .int .i64 a0_4, .int .i64 a0_5, .int .i64 a0_6] 40 (0, 0)) (by (with_reducible repeat (first | refine blk_drewN ?_ _ | refine blk_drew ?_ | refine blk_alloc ?_ _)); exact BK120.out)) : gb121 ≠ gb120)); clear BK120; clear HB; have BK120 := n0_; have HB := n1_; have BK121 := n2_; have GW121 := n3_; have GE121 := n4_; have NB120_121 := n5_; have NB121_120 := n6_; clear n0_ n1_ n2_ n3_ n4_ n5_ n6_; clear hb hbox hg; have hnb11 := NB120_121.out; have hnc11 := NB121_120.out; have hcz12_0 : w10.cell? ⟨gb120, 0, none⟩ = some (.int .i64 a0_0) := (blk_cell BK120.out 0).trans rfl; have hcz12_1 : w10.cell? ⟨gb120, 1, none⟩ = some (.int .i64 a0_1) := (blk_cell BK120.out 1).trans rfl; have hcz12_2 : w10.cell? ⟨gb120, 2, none⟩ = some (.int .i64 a0_2) := (blk_cell BK120.out 2).trans rfl; have hcz12_3 : w10.cell? ⟨gb120, 3, none⟩ = some (.bool false) := (blk_cell BK120.out 3).trans rfl; have hcz12_4 : w10.cell? ⟨gb120, 4, none⟩ = some (.int .i64 a0_4) := (blk_cell BK120.out 4).trans rfl; have hcz12_5 : w10.cell? ⟨gb120, 5, none⟩ = some (.int .i64 a0_5) := (blk_cell BK120.out 5).trans rfl; have hcz12_6 : w10.cell? ⟨gb120, 6, none⟩ = some (.int .i64 a0_6) := (blk_cell BK120.out 6).trans rfl; have hfz12_0 := blk_frozen BK120.out 0; have hfz12_1 := blk_frozen BK120.out 1; have hfz12_2 := blk_frozen BK120.out 2; have hfz12_3 := blk_frozen BK120.out 3; have hfz12_4 := blk_frozen BK120.out 4; have hfz12_5 := blk_frozen BK120.out 5; have hfz12_6 := blk_frozen BK120.out 6))
    go_ret
    exact ⟨by first | rfl | (simp [errW_none, errW_some] <;> rfl) | (simp [*, errW_none, errW_some] <;> rfl), by repeat (first | (with_reducible first | exact HB.out | apply below_alloc | apply pw_below_drewN | apply below_drew1 | refine below_set ?_ GE120.out | refine below_set ?_ GE121.out) | exact HB.out)⟩

end Go.Proofs.Ytofhghpahmeolaa.PHistWhole
