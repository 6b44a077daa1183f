-- Written by a program of this session (wip/bin/patch_print.py): a turned copy of the kit's printer. Not trusted: Lean checks it.
import Derived.Test.YtofhghpahmeolaaPHistBeforex0
import Derived.Test.YtofhghpahmeolaaPHistBeforex1
namespace Go.Proofs.Ytofhghpahmeolaa.PHistBefore
open Go.RowKit Go.Proofs.YtofhghpahmeolaaW.PrintWords Go.Proofs.YtofhghpahmeolaaW.PrintLast Go.Proofs.YtofhghpahmeolaaW.PrintMore
attribute [local go_sem] max2_int min2_int max_two min_two max_three min_three max_four min_four   -- for this text's walks alone
set_option linter.unusedVariables false
set_option linter.unusedSimpArgs false

/-! ### inquestref14_Check: function 12 -/
def badE (x : S44) : Prop := x.f0 < 0 ∨ 16 ≤ x.f0 ∨ x.f2 < 0 ∨ 16 ≤ x.f2 ∨ (x.f1 = false ∧ x.f2 ≠ 0)
instance (x : S44) : Decidable (badE x) := by unfold badE; infer_instance
/-- How many calls there are. -/
def cnt : List S44 → Nat
  | [] => 0
  | x :: l => (if x.f1 = true then 1 else 0) + cnt l
theorem cnt_app : ∀ (p q : List S44), cnt (p ++ q) = cnt p + cnt q
  | [], q => by simp [cnt]
  | x :: p, q => by rw [List.cons_append, cnt, cnt, cnt_app p q]; omega
theorem cnt_le : ∀ (p : List S44), cnt p ≤ p.length
  | [] => by simp [cnt]
  | x :: p => by rw [cnt, List.length_cons]; have := cnt_le p; split <;> omega
/-- Whether a client's last event is a call. -/
def lst (cl : Int) : List S44 → Bool → Bool
  | [], b => b
  | x :: l, b => lst cl l (if x.f0 = cl then x.f1 else b)
theorem lst_app (cl : Int) : ∀ (p q : List S44) (b : Bool), lst cl (p ++ q) b = lst cl q (lst cl p b)
  | [], q, b => rfl
  | x :: p, q, b => by rw [List.cons_append, lst, lst, lst_app cl p q]
theorem take_snoc44 (L : List S44) (i : Nat) (h : i < L.length) : L.take (i + 1) = L.take i ++ [rd_T44 L i] := by
  rw [List.take_succ_eq_append_getElem h]; congr 1; simp [rd_T44, List.getElem?_eq_getElem h]
theorem drop_cons44 (L : List S44) (i : Nat) (h : i < L.length) : L.drop i = rd_T44 L i :: L.drop (i + 1) := by
  rw [List.drop_eq_getElem_cons h]; congr 1; simp [rd_T44, List.getElem?_eq_getElem h]
theorem r14_calls_l0 (d : Nat) : ∀ (L : List S44) (n i : Nat), n ≤ L.length → L.length ≤ 1000 → n - i = d → i ≤ n → Ev (fun k => inquestref14_calls.l0 k L n (cnt (L.take i)) i) (cnt (L.take n) : Int) := by
  induction d with
  | zero =>
    intro L n i hn hl hd hi
    have : i = n := by omega
    subst this
    refine Ev.step (f := fun _ => some ((cnt (L.take i) : Nat) : Int)) (fun k => ?_) (Ev.now _)
    simp only [inquestref14_calls.l0]; rw [if_neg (by omega)]
  | succ d ih =>
    intro L n i hn hl hd hi
    have g := ih L n (i + 1) hn hl (by omega) (by omega)
    rw [take_snoc44 L i (by omega), cnt_app] at g
    have c := cnt_le (L.take i)
    rw [List.length_take] at c
    refine Ev.step (fun k => ?_) g
    simp only [inquestref14_calls.l0]
    rw [if_pos (by omega), if_pos (by omega), if_pos (by omega)]
    have w1 : wrap64 ((i : Int) + 1) = ((i + 1 : Nat) : Int) := by rw [w64_h (by omega) (by omega)]; rfl
    have w2 : wrap64 (((cnt (L.take i) : Nat) : Int) + 1) = ((cnt (L.take i) + 1 : Nat) : Int) := by rw [w64_h (by omega) (by omega)]; rfl
    rw [w1, w2]
    cases h : (rd_T44 L i).f1 with
    | true => simp [cnt, h]
    | false => simp [cnt, h]
theorem r14_calls_ev (L : List S44) (n : Nat) (hn : n ≤ L.length) (hl : L.length ≤ 1000) : Ev (fun k => inquestref14_calls.f k L n) (cnt (L.take n) : Int) := by
  have := r14_calls_l0 n L n 0 hn hl (by omega) (by omega)
  exact this
theorem r14_last_l0 (cl : Int) : ∀ (m : Nat) (L : List S44), m ≤ L.length → L.length ≤ 1000 → Ev (fun k => inquestref14_last.l0 k L cl ((m : Int) - 1)) (lst cl (L.take m) false)
  | 0, L, hm, hl => by
    refine Ev.step (f := fun _ => some false) (fun k => ?_) (Ev.now _)
    simp only [inquestref14_last.l0]; rw [if_neg (by omega)]
  | m + 1, L, hm, hl => by
    rw [take_snoc44 L m (by omega), lst_app, lst, lst]
    have e : ((m + 1 : Nat) : Int) - 1 = (m : Int) := by omega
    rw [e]
    by_cases c : (rd_T44 L m).f0 = cl
    · rw [if_pos c]
      refine Ev.step (f := fun _ => some (rd_T44 L m).f1) (fun k => ?_) (Ev.now _)
      simp only [inquestref14_last.l0]; rw [if_pos (by omega), if_pos (by omega), if_pos (by omega), if_pos c]
    · rw [if_neg c]
      refine Ev.step (fun k => ?_) (r14_last_l0 cl m L (by omega) hl)
      simp only [inquestref14_last.l0]; rw [if_pos (by omega), if_pos (by omega), if_pos (by omega), if_neg c, w64_h (by omega) (by omega)]
theorem r14_last_ev (L : List S44) (m : Nat) (cl : Int) (hm : m ≤ L.length) (hl : L.length ≤ 1000) : Ev (fun k => inquestref14_last.f k L m cl) (lst cl (L.take m) false) := by
  refine Ev.congr (fun k => ?_) (r14_last_l0 cl m L hm hl)
  unfold inquestref14_last.f; rw [w64_h (by omega) (by omega)]
/-- What the walk keeps of the row of bools. -/
def OpenIs (L : List S44) (i : Nat) (xs : List Bool) : Prop := xs.length = 16 ∧ ∀ cl : Int, 0 ≤ cl → cl < 16 → rdOf false xs cl = lst cl (L.take i) false
theorem rdOf_set (xs : List Bool) (a c : Int) (b : Bool) (ha : 0 ≤ a) (hc : 0 ≤ c) (h : a.toNat < xs.length) : rdOf false (xs.set a.toNat b) c = if a = c then b else rdOf false xs c := by
  obtain ⟨n, rfl⟩ := Int.eq_ofNat_of_zero_le ha
  obtain ⟨m, rfl⟩ := Int.eq_ofNat_of_zero_le hc
  simp only [rdOf, Int.toNat_natCast, List.getD_eq_getElem?_getD] at h ⊢
  by_cases e : n = m
  · subst e; rw [if_pos rfl, List.getElem?_set_self h]; rfl
  · rw [if_neg (by omega), List.getElem?_set_ne e]
theorem OpenIs.step {L : List S44} {i : Nat} {xs : List Bool} (h : OpenIs L i xs) (hi : i < L.length) (hb : ¬ badE (rd_T44 L i)) : OpenIs L (i + 1) (xs.set (rd_T44 L i).f0.toNat (rd_T44 L i).f1) := by
  unfold badE at hb
  refine ⟨by simpa using h.1, fun cl h0 h1 => ?_⟩
  rw [rdOf_set _ _ _ _ (by omega) h0 (by rw [h.1]; omega), take_snoc44 L i hi, lst_app, lst, lst, h.2 cl h0 h1]
theorem OpenIs.start (L : List S44) : OpenIs L 0 (List.replicate 16 false) := by
  refine ⟨rfl, fun cl h0 h1 => ?_⟩
  obtain ⟨n, rfl⟩ := Int.eq_ofNat_of_zero_le h0
  have key : ∀ n : Nat, n < 16 → rdOf false (List.replicate 16 false) (n : Int) = false := by decide +kernel
  rw [key n (by omega)]; rfl
theorem z_bad (x : S44) (l : List S44) (i : Nat) (c : Int) (xs : List Bool) (h : badE x) : hist_Check.z (x :: l) i c xs = ((i : Int), 2) := by rw [hist_Check.z]; exact if_pos h
theorem z_ok (x : S44) (l : List S44) (i : Nat) (c : Int) (xs : List Bool) (h : ¬ badE x) : hist_Check.z (x :: l) i c xs = if x.f1 = true ∧ c = 64 then ((i : Int), 5) else if x.f1 = rdOf false xs x.f0 then ((i : Int), 20) else hist_Check.z l (i + 1) (if x.f1 = true then c + 1 else c) (xs.set x.f0.toNat x.f1) := by rw [hist_Check.z]; exact if_neg h
def inquestref14_Check.f (l0 : List S44) : Option (Int × Int) := if l0.length ≤ 1000 then some (hist_Check.z l0 0 0 (List.replicate 16 false)) else none
set_option maxHeartbeats 8000000 in
theorem inquestref14_Check.calls (A0 : Option Addr) (c0 : Nat) (l0 : List S44) (r1 r2 : Int) (w : World) (hr0 : Kd.C k44 w A0 l0.length l0) (hc0 : l0.length ≤ c0) (h : inquestref14_Check.f l0 = some (r1, r2)) :
    Calls Try.prog 12 #[.slice A0 l0.length c0] w fun e w' => e = .returned (.tuple #[.int .i64 r1, .int .i64 r2]) ∧ Below w.heap.size w w' := by
  have hu44 := Try.underlying44
  unfold inquestref14_Check.f at h
  by_cases hlen : l0.length ≤ 1000
  · rw [if_pos hlen] at h
    replace h := Aside0.mk (Option.some.inj h)
    go_enter Try.func12, Try.ntmps12
    go_wp2
    go_loopg [4] l0.length (fun k v4 W => ∃ (i : Nat) (xs : List Bool), v4 = .int .i64 i ∧ Aside0 (k + i = l0.length) ∧ Aside0 (hist_Check.z (l0.drop i) i (cnt (l0.take i)) xs = (r1, r2)) ∧ i ≤ l0.length ∧ Aside0 (OpenIs l0 i xs) ∧ Below w.heap.size w W)
    case atStart => exact ⟨0, List.replicate 16 false, rfl, ⟨Nat.add_zero _⟩, h, by omega, ⟨OpenIs.start _⟩, Below.refl _ _⟩
    case round =>
      obtain ⟨i, xs, rfl, hk, hz, hin, hop, hI⟩ := hrel
      by_cases hil : (i : Int) < (l0.length : Int)
      · have p0 : (0 : Int) ≤ (i : Int) := Int.natCast_nonneg i
        obtain ⟨j, rfl⟩ : ∃ j, gk = j + 1 := ⟨gk - 1, by have := hk.out; omega⟩
        have hlt : i < l0.length := by omega
        have hCr := Kd.C_below hr0 hI
        obtain ⟨ad, rfl, hy0, hy1, hy2, hy3⟩ := at_T44 hCr (i : Int) p0 hil
        simp only [Int.toNat_natCast] at hy0 hy1 hy2 hy3
        have hrr := hz.out
        rw [drop_cons44 l0 i hlt] at hrr
        have hwi : wrap64 ((i : Int) + 1) = (i : Int) + 1 := w64_h (by omega) (by omega)
        obtain ⟨kc, hcalls⟩ := Ev.rounds (r14_calls_ev l0 i hin hlen)
        obtain ⟨kl, hlast⟩ := Ev.rounds (r14_last_ev l0 i (rd_T44 l0 i).f0 hin hlen)
        have hstep : ¬ badE (rd_T44 l0 i) → Aside0 (OpenIs l0 (i + 1) (xs.set (rd_T44 l0 i).f0.toNat (rd_T44 l0 i).f1)) := fun hb => ⟨hop.out.step hlt hb⟩
        have hcnt : cnt (l0.take (i + 1)) = cnt (l0.take i) + (if (rd_T44 l0 i).f1 = true then 1 else 0) := by rw [take_snoc44 l0 i hlt, cnt_app]; rfl
        have hlx : ¬ badE (rd_T44 l0 i) → rdOf false xs (rd_T44 l0 i).f0 = lst (rd_T44 l0 i).f0 (l0.take i) false := fun hb => hop.out.2 _ (by unfold badE at hb; omega) (by unfold badE at hb; omega)
        clear h hz hop
        generalize rd_T44 l0 i = x at *
        obtain ⟨cl, ca, op, va⟩ := x
        dsimp only at hy0 hy1 hy2 hy3 hlast hstep hlx hcnt
        generalize lst cl (l0.take i) false = lv at *
        have hbx := blk_new wr (.cells #[.int .i64 cl, .bool ca, .int .i64 op, .int .i64 va] 44)
        have b0 := blk_cell hbx 0
        have b1 := blk_cell hbx 1
        have b2 := blk_cell hbx 2
        have b3 := blk_cell hbx 3
        have hJ := below_step hI (below_alloc (Below.refl wr.heap.size wr) (.cells #[.int .i64 cl, .bool ca, .int .i64 op, .int .i64 va] 44))
        have hCj := Kd.C_below hr0 hJ
        simp only [List.getElem?_toArray, List.getElem?_cons_zero, List.getElem?_cons_succ] at b0 b1 b2 b3
        clear hbx hCr
        by_cases cA : cl < 0
        · have hb : badE ⟨cl, ca, op, va⟩ := .inl cA
          rw [z_bad _ _ _ _ _ hb] at hrr
          obtain ⟨rfl, rfl⟩ : (i : Int) = r1 ∧ (2 : Int) = r2 := by simpa using hrr
          clear hrr hstep hlx hb hcalls hlast hcnt
          have cA' : (0 ≤ cl) = False := eq_false (by omega)
          go_wp2
          go_ret2
          exact ⟨rfl, hJ⟩
        have cA' : (0 ≤ cl) = True := eq_true (by omega)
        by_cases cB : 16 ≤ cl
        · have hb : badE ⟨cl, ca, op, va⟩ := .inr (.inl cB)
          rw [z_bad _ _ _ _ _ hb] at hrr
          obtain ⟨rfl, rfl⟩ : (i : Int) = r1 ∧ (2 : Int) = r2 := by simpa using hrr
          clear hrr hstep hlx hb hcalls hlast hcnt
          have cB' : (cl ≤ 15) = False := eq_false (by omega)
          go_wp2
          go_ret2
          exact ⟨rfl, hJ⟩
        have cB' : (cl ≤ 15) = True := eq_true (by omega)
        cases ca with
        | false =>
          by_cases cE : op ≠ 0
          · have hb : badE ⟨cl, false, op, va⟩ := .inr (.inr (.inr (.inr ⟨rfl, cE⟩)))
            rw [z_bad _ _ _ _ _ hb] at hrr
            obtain ⟨rfl, rfl⟩ : (i : Int) = r1 ∧ (2 : Int) = r2 := by simpa using hrr
            clear hrr hstep hlx hb hcalls hlast hcnt
            have cE' : (op == 0) = false := by simpa using cE
            go_wp2
            go_ret2
            exact ⟨rfl, hJ⟩
          obtain rfl : op = 0 := Decidable.not_not.1 cE
          have hb : ¬ badE ⟨cl, false, 0, va⟩ := by unfold badE; simp; omega
          rw [z_ok _ _ _ _ _ hb, if_neg (by simp), hlx hb] at hrr
          have hs := hstep hb
          clear hstep hlx hb hcalls
          cases lv with
          | false =>
            rw [if_pos rfl] at hrr
            obtain ⟨rfl, rfl⟩ : (i : Int) = r1 ∧ (20 : Int) = r2 := by simpa using hrr
            clear hrr hs hcnt
            go_wp2_with (first | (go_at_call 29; (with_reducible refine (inquestref14_last.calls kl _ c0 l0 i cl _ _ (by first | exact hCj | exact Kd.C_drew hCj | exact Kd.C_drewN hCj _) hc0 hlast).mono ?_); rintro e w2 ⟨rfl, nd2, rfl⟩))
            go_region_held3 (fun W => W.cell? ⟨wr.heap.size, 1, none⟩ = some (.bool false) ∧ W.cell? ⟨wr.heap.size, 0, none⟩ = some (.int .i64 cl)) (first | assumption | exact ⟨b1, b0⟩) (first | (go_at_call 29; (with_reducible refine (inquestref14_last.calls kl _ c0 l0 i cl _ _ (by first | exact hCj | exact Kd.C_drew hCj | exact Kd.C_drewN hCj _) hc0 hlast).mono ?_); rintro e w2 ⟨rfl, nd2, rfl⟩))
            go_wp2
            go_ret2
            exact ⟨rfl, (by repeat (first | exact hJ | (with_reducible refine pw_below_drewN ?_ _) | (with_reducible refine below_drew1 ?_)))⟩
          | true =>
            rw [if_neg (by simp)] at hrr
            have hrr2 : Aside0 (hist_Check.z (l0.drop (i + 1)) (i + 1) (cnt (l0.take (i + 1))) (xs.set cl.toNat false) = (r1, r2)) := ⟨by rw [hcnt]; simpa using hrr⟩
            clear hrr hcnt
            go_wp2_with (first | (go_at_call 29; (with_reducible refine (inquestref14_last.calls kl _ c0 l0 i cl _ _ (by first | exact hCj | exact Kd.C_drew hCj | exact Kd.C_drewN hCj _) hc0 hlast).mono ?_); rintro e w2 ⟨rfl, nd2, rfl⟩))
            go_region_held3 (fun W => W.cell? ⟨wr.heap.size, 1, none⟩ = some (.bool false) ∧ W.cell? ⟨wr.heap.size, 0, none⟩ = some (.int .i64 cl)) (first | assumption | exact ⟨b1, b0⟩) (first | (go_at_call 29; (with_reducible refine (inquestref14_last.calls kl _ c0 l0 i cl _ _ (by first | exact hCj | exact Kd.C_drew hCj | exact Kd.C_drewN hCj _) hc0 hlast).mono ?_); rintro e w2 ⟨rfl, nd2, rfl⟩))
            go_wp2
            go_roundg j
            case measure => omega
            case rel => exact ⟨i + 1, _, (by first | rfl | (rw [hwi]; rfl)), ⟨by have := hk.out; omega⟩, hrr2, by omega, hs, (by repeat (first | exact hJ | (with_reducible refine pw_below_drewN ?_ _) | (with_reducible refine below_drew1 ?_)))⟩
        | true =>
          by_cases cC : op < 0
          · have hb : badE ⟨cl, true, op, va⟩ := .inr (.inr (.inl cC))
            rw [z_bad _ _ _ _ _ hb] at hrr
            obtain ⟨rfl, rfl⟩ : (i : Int) = r1 ∧ (2 : Int) = r2 := by simpa using hrr
            clear hrr hstep hlx hb hcalls hlast hcnt
            have cC' : (0 ≤ op) = False := eq_false (by omega)
            go_wp2
            go_ret2
            exact ⟨rfl, hJ⟩
          have cC' : (0 ≤ op) = True := eq_true (by omega)
          by_cases cD : 16 ≤ op
          · have hb : badE ⟨cl, true, op, va⟩ := .inr (.inr (.inr (.inl cD)))
            rw [z_bad _ _ _ _ _ hb] at hrr
            obtain ⟨rfl, rfl⟩ : (i : Int) = r1 ∧ (2 : Int) = r2 := by simpa using hrr
            clear hrr hstep hlx hb hcalls hlast hcnt
            have cD' : (op ≤ 15) = False := eq_false (by omega)
            go_wp2
            go_ret2
            exact ⟨rfl, hJ⟩
          have cD' : (op ≤ 15) = True := eq_true (by omega)
          have hb : ¬ badE ⟨cl, true, op, va⟩ := by unfold badE; simp; omega
          rw [z_ok _ _ _ _ _ hb, hlx hb] at hrr
          have hs := hstep hb
          clear hstep hlx hb
          by_cases cF : ((cnt (l0.take i) : Nat) : Int) = 64
          · rw [if_pos ⟨rfl, cF⟩] at hrr
            obtain ⟨rfl, rfl⟩ : (i : Int) = r1 ∧ (5 : Int) = r2 := by simpa using hrr
            rw [cF] at hcalls
            clear hrr hs hcnt hlast
            go_wp2_with (first | (go_at_call 28; (with_reducible refine (inquestref14_calls.calls kc _ c0 l0 i _ _ (by first | exact hCj | exact Kd.C_drew hCj | exact Kd.C_drewN hCj _) hc0 hcalls).mono ?_); rintro e w2 ⟨rfl, nd1, rfl⟩))
            go_ret2
            exact ⟨rfl, (by repeat (first | exact hJ | (with_reducible refine pw_below_drewN ?_ _) | (with_reducible refine below_drew1 ?_)))⟩
          have cF' : (((cnt (l0.take i) : Nat) : Int) == 64) = false := by simpa using cF
          rw [if_neg (fun h => cF h.2)] at hrr
          cases lv with
          | false =>
            rw [if_neg (by simp)] at hrr
            have hrr2 : Aside0 (hist_Check.z (l0.drop (i + 1)) (i + 1) (cnt (l0.take (i + 1))) (xs.set cl.toNat true) = (r1, r2)) := ⟨by rw [hcnt]; simpa using hrr⟩
            clear hrr hcnt
            go_wp2_with (first | (go_at_call 28; (with_reducible refine (inquestref14_calls.calls kc _ c0 l0 i _ _ (by first | exact hCj | exact Kd.C_drew hCj | exact Kd.C_drewN hCj _) hc0 hcalls).mono ?_); rintro e w2 ⟨rfl, nd1, rfl⟩) | (go_at_call 29; (with_reducible refine (inquestref14_last.calls kl _ c0 l0 i cl _ _ (by first | exact hCj | exact Kd.C_drew hCj | exact Kd.C_drewN hCj _) hc0 hlast).mono ?_); rintro e w2 ⟨rfl, nd2, rfl⟩))
            go_region_held3 (fun W => W.cell? ⟨wr.heap.size, 1, none⟩ = some (.bool true) ∧ W.cell? ⟨wr.heap.size, 0, none⟩ = some (.int .i64 cl)) (first | assumption | exact ⟨b1, b0⟩) (first | (go_at_call 29; (with_reducible refine (inquestref14_last.calls kl _ c0 l0 i cl _ _ (by first | exact hCj | exact Kd.C_drew hCj | exact Kd.C_drewN hCj _) hc0 hlast).mono ?_); rintro e w2 ⟨rfl, nd2, rfl⟩))
            go_wp2
            go_roundg j
            case measure => omega
            case rel => exact ⟨i + 1, _, (by first | rfl | (rw [hwi]; rfl)), ⟨by have := hk.out; omega⟩, hrr2, by omega, hs, (by repeat (first | exact hJ | (with_reducible refine pw_below_drewN ?_ _) | (with_reducible refine below_drew1 ?_)))⟩
          | true =>
            rw [if_pos rfl] at hrr
            obtain ⟨rfl, rfl⟩ : (i : Int) = r1 ∧ (20 : Int) = r2 := by simpa using hrr
            clear hrr hs hcnt
            go_wp2_with (first | (go_at_call 28; (with_reducible refine (inquestref14_calls.calls kc _ c0 l0 i _ _ (by first | exact hCj | exact Kd.C_drew hCj | exact Kd.C_drewN hCj _) hc0 hcalls).mono ?_); rintro e w2 ⟨rfl, nd1, rfl⟩) | (go_at_call 29; (with_reducible refine (inquestref14_last.calls kl _ c0 l0 i cl _ _ (by first | exact hCj | exact Kd.C_drew hCj | exact Kd.C_drewN hCj _) hc0 hlast).mono ?_); rintro e w2 ⟨rfl, nd2, rfl⟩))
            go_region_held3 (fun W => W.cell? ⟨wr.heap.size, 1, none⟩ = some (.bool true) ∧ W.cell? ⟨wr.heap.size, 0, none⟩ = some (.int .i64 cl)) (first | assumption | exact ⟨b1, b0⟩) (first | (go_at_call 29; (with_reducible refine (inquestref14_last.calls kl _ c0 l0 i cl _ _ (by first | exact hCj | exact Kd.C_drew hCj | exact Kd.C_drewN hCj _) hc0 hlast).mono ?_); rintro e w2 ⟨rfl, nd2, rfl⟩))
            go_wp2
            go_ret2
            exact ⟨rfl, (by repeat (first | exact hJ | (with_reducible refine pw_below_drewN ?_ _) | (with_reducible refine below_drew1 ?_)))⟩
      · obtain rfl : i = l0.length := by omega
        have hrr := hz.out
        rw [List.drop_of_length_le (Nat.le_refl _)] at hrr
        unfold hist_Check.z at hrr
        obtain ⟨rfl, rfl⟩ : (0 : Int) = r1 ∧ (0 : Int) = r2 := by simpa using hrr
        clear hrr hz h
        go_wp2
        go_ret2
        exact ⟨rfl, hI⟩
  · rw [if_neg hlen] at h; exact absurd h (by simp)

end Go.Proofs.Ytofhghpahmeolaa.PHistBefore
