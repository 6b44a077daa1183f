-- Written by a program of this session (wip/bin/patch_print.py): a turned copy of the kit's printer. Not trusted: Lean checks it.
import Derived.Test.YtkhacnckajamhaaPQueueOrderx0
namespace Go.Proofs.Ytkhacnckajamhaa.PQueueOrder
open Go.RowKit Go.Proofs.YtkhacnckajamhaaW.PrintWords Go.Proofs.YtkhacnckajamhaaW.PrintLast Go.Proofs.YtkhacnckajamhaaW.PrintMore
attribute [local go_sem] max2_int min2_int max_two min_two max_three min_three max_four min_four   -- for this text's walks alone
set_option linter.unusedVariables false
set_option linter.unusedSimpArgs false

-- NOT PRINTED: function 12 (queue_New)

/-! ### slices_Index_int_int: function 24 -/
def slices_Index_int_int.l0 : Nat → List Int → Int → Int → Int → Option (Int)
  | 0, _, _, _, _ => none
  | k + 1, x0, x1, x7, x8 => if x8 < x7 then (if 0 ≤ x8 then (if x8 < (x0.length : Int) then (if x1 = (rd x0 x8) then (some x8) else (slices_Index_int_int.l0 k x0 x1 x7 (wrap64 (x8 + 1)))) else (none)) else (none)) else (some (-1))
def slices_Index_int_int.f (k : Nat) (l0 : List Int) (a1 : Int) : Option (Int) := slices_Index_int_int.l0 k l0 a1 (l0.length : Int) 0
theorem slices_Index_int_int.mono_l : ∀ k, (∀ y0 y1 y2 y3, LeO (slices_Index_int_int.l0 k y0 y1 y2 y3) (slices_Index_int_int.l0 (k + 1) y0 y1 y2 y3))
  | 0 => fun _ _ _ _ r h => by simp [slices_Index_int_int.l0] at h
  | k + 1 => by
    have ih0 := slices_Index_int_int.mono_l k
    · intro y0 y1 y2 y3
      unfold slices_Index_int_int.l0
      repeat' first
      | (with_reducible exact ih0 _ _ _ _)
      | (with_reducible exact LeO.refl _)
      | (with_reducible exact LeO.none _)
      | (with_reducible refine LeO.ite ?_ ?_)
      | (with_reducible refine LeO.bind ?_ (fun _ => ?_))
      | exact ih0 _ _ _ _
      | exact LeO.none _
      | refine LeO.ite ?_ ?_
      | refine LeO.bind ?_ (fun _ => ?_)
theorem slices_Index_int_int.mono : ∀ a0 a1 k, LeO (slices_Index_int_int.f k a0 a1) (slices_Index_int_int.f (k + 1) a0 a1) := by
  intro a0 a1 k
  have ih0 := slices_Index_int_int.mono_l k
  unfold slices_Index_int_int.f
  repeat' first
      | (with_reducible exact ih0 _ _ _ _)
      | (with_reducible exact LeO.refl _)
      | (with_reducible exact LeO.none _)
      | (with_reducible refine LeO.ite ?_ ?_)
      | (with_reducible refine LeO.bind ?_ (fun _ => ?_))
      | exact ih0 _ _ _ _
      | exact LeO.none _
      | refine LeO.ite ?_ ?_
      | refine LeO.bind ?_ (fun _ => ?_)
set_option maxHeartbeats 8000000 in
set_option maxRecDepth 100000 in
theorem slices_Index_int_int.calls (k : Nat) (A0 : Option Addr) (c0 : Nat) (l0 : List Int) (a1 : Int) (r : Int) (w : World) (hr0 : Kd.C (Kd.int .i64) w A0 l0.length l0) (hc0 : l0.length ≤ c0) (h : slices_Index_int_int.f k l0 a1 = some r) :
    Calls Try.prog 24 #[.slice A0 l0.length c0, .int .i64 a1] w fun e w' => e = .returned (.int .i64 r) ∧ Drawn0 w w' := by
  have HR0 := Aside0.mk hr0
  have HC0 := Aside0.mk hc0
  clear hr0 hc0
  have H : (slices_Index_int_int.l0 k l0 a1 (l0.length : Int) 0) = some r := h
  clear h
  have H' := Aside0.mk H
  clear H
  go_enter Try.func24, Try.ntmps24
  go_wp2
  go_loopg [8] k (fun kq v8 w' => ∃ (x8_1 : Int), v8 = .int .i64 x8_1 ∧ Aside0 (slices_Index_int_int.l0 kq l0 a1 (l0.length : Int) x8_1 = some r) ∧ Aside0 (kq ≤ k) ∧ Drawn0 w w')
  case atStart => exact ⟨(0), (by first | rfl | (simp; done) | (simp [*]; done)), H', ⟨Nat.le_refl _⟩, by repeat (first | exact Drawn0.refl _ | apply Drawn0.step)⟩
  case round =>
    clear H'
    try clear c2
    try clear p2
    obtain ⟨x8_1, rfl, HA, HK1, ⟨m1, rfl⟩⟩ := hrel
    cases gk with
    | zero => exact absurd HA.out (by simp [slices_Index_int_int.l0])
    | succ k1 =>
      have H := HA.out
      clear HA
      simp only [slices_Index_int_int.l0] at H
      by_cases c3 : x8_1 < (l0.length : Int)
      · rw [if_pos c3] at H
        have c3b0 : decide (x8_1 < (l0.length : Int)) = true := decide_eq_true c3
        clear c3
        by_cases c4 : 0 ≤ x8_1
        · rw [if_pos c4] at H
          have c4b0 : decide (0 ≤ x8_1) = true := decide_eq_true c4
          clear c4
          by_cases c5 : x8_1 < (l0.length : Int)
          · rw [if_pos c5] at H
            have c5b0 : decide (x8_1 < (l0.length : Int)) = true := decide_eq_true c5
            clear c5
            by_cases c6 : a1 = (rd l0 x8_1)
            · rw [if_pos c6] at H
              have c6b0 : (a1 == (rd l0 x8_1)) = true := beq_iff_eq.mpr c6
              have c6b1 : (a1 != (rd l0 x8_1)) = false := bne_eq_false_iff_eq.mpr c6
              clear c6
              obtain rfl := Option.some.inj H
              have p101 : 0 ≤ (x8_1 : Int) := of_decide_eq_true (by first | (with_reducible assumption) | assumption)
              have q101 : x8_1 < (l0.length : Int) := of_decide_eq_true (by first | (with_reducible assumption) | assumption)
              obtain ⟨ad101, e101, hx101_0⟩ := Kd.at_int HR0.out x8_1 p101 q101
              cases e101
              replace p101 := eq_true p101
              replace q101 := eq_true q101
              go_wp2
              go_ret
              exact ⟨by first | rfl | (simp; done) | (simp [*]; done), by repeat (first | exact Drawn0.refl _ | apply Drawn0.step)⟩
            · rw [if_neg c6] at H
              have c6b0 : (a1 == (rd l0 x8_1)) = false := beq_eq_false_iff_ne.mpr c6
              have c6b1 : (a1 != (rd l0 x8_1)) = true := bne_iff_ne.mpr c6
              have H' := Aside0.mk H
              clear H
              have p101 : 0 ≤ (x8_1 : Int) := of_decide_eq_true (by first | (with_reducible assumption) | assumption)
              have q101 : x8_1 < (l0.length : Int) := of_decide_eq_true (by first | (with_reducible assumption) | assumption)
              obtain ⟨ad101, e101, hx101_0⟩ := Kd.at_int HR0.out x8_1 p101 q101
              cases e101
              replace p101 := eq_true p101
              replace q101 := eq_true q101
              go_wp2
              go_roundg k1
              case measure => have := HK1.out; omega
              case rel => exact ⟨(wrap64 (x8_1 + 1)), (by first | rfl | (simp; done) | (simp [*]; done)), H', ⟨by have := HK1.out; omega⟩, by repeat (first | exact Drawn0.refl _ | apply Drawn0.step)⟩
          · rw [if_neg c5] at H
            exact absurd H (by simp)
        · rw [if_neg c4] at H
          exact absurd H (by simp)
      · rw [if_neg c3] at H
        have c3b0 : decide (x8_1 < (l0.length : Int)) = false := decide_eq_false c3
        clear c3
        obtain rfl := Option.some.inj H
        go_wp2
        go_ret
        exact ⟨by first | rfl | (simp; done) | (simp [*]; done), by repeat (first | exact Drawn0.refl _ | apply Drawn0.step)⟩

/-! ### slices_Contains_int_int: function 23 -/
def slices_Contains_int_int.f (k : Nat) (l0 : List Int) (a1 : Int) : Option (Bool) := (slices_Index_int_int.f k l0 a1).bind fun t102 => (some (decide (t102 ≥ 0)))
theorem slices_Contains_int_int.mono : ∀ a0 a1 k, LeO (slices_Contains_int_int.f k a0 a1) (slices_Contains_int_int.f (k + 1) a0 a1) := by
  intro a0 a1 k
  unfold slices_Contains_int_int.f
  repeat' first
      | (with_reducible exact slices_Index_int_int.mono _ _ _)
      | (with_reducible exact LeO.refl _)
      | (with_reducible exact LeO.none _)
      | (with_reducible refine LeO.ite ?_ ?_)
      | (with_reducible refine LeO.bind ?_ (fun _ => ?_))
      | exact slices_Index_int_int.mono _ _ _
      | exact LeO.none _
      | refine LeO.ite ?_ ?_
      | refine LeO.bind ?_ (fun _ => ?_)
set_option maxHeartbeats 8000000 in
set_option maxRecDepth 100000 in
theorem slices_Contains_int_int.calls (k : Nat) (A0 : Option Addr) (c0 : Nat) (l0 : List Int) (a1 : Int) (r : Bool) (w : World) (hr0 : Kd.C (Kd.int .i64) w A0 l0.length l0) (hc0 : l0.length ≤ c0) (h : slices_Contains_int_int.f k l0 a1 = some r) :
    Calls Try.prog 23 #[.slice A0 l0.length c0, .int .i64 a1] w fun e w' => e = .returned (.bool r) ∧ Drawn0 w w' := by
  have HR0 := Aside0.mk hr0
  have HC0 := Aside0.mk hc0
  clear hr0 hc0
  have H : ((slices_Index_int_int.f k l0 a1).bind fun t102 => (some (decide (t102 ≥ 0)))) = some r := h
  clear h
  replace H := Option.bind_eq_some_iff.mp H
  obtain ⟨t102, A30, H⟩ := H
  replace H : (some (decide (t102 ≥ 0))) = some r := H
  have A3 := Aside0.mk A30
  clear A30
  obtain rfl := Option.some.inj H
  go_enter Try.func23, Try.ntmps23
  go_wp2_with (first | ((with_reducible refine gate_callee (f := 24) rfl ?_); refine goesL_ (some 7) rfl rfl Try.func24 (by kernel_rfl) rfl #[.slice A0 l0.length c0, .int .i64 a1] rfl (by (try simp only [List.map_toArray, List.map_cons, List.map_nil]); first | done | rfl | (simp only [List.length_drop, List.length_take]; rfl)) ?_; (with_reducible refine (slices_Index_int_int.calls k _ _ l0 a1 t102 _ ?side1 ?side2 A3.out).mono ?_); (case side1 => repeat (first | exact HR0.out | (with_reducible refine Kd.C_alloc ?_ _) | (with_reducible refine Kd.C_drewN ?_ _) | (with_reducible refine Kd.C_drew ?_))); (case side2 => exact HC0.out); rintro e w' ⟨rfl, ⟨nd, rfl⟩⟩; refine ⟨_, rfl, ?_⟩))
  go_ret
  exact ⟨by first | rfl | (simp; done) | (simp [*]; done), by repeat (first | exact Drawn0.refl _ | apply Drawn0.step)⟩

-- NOT PRINTED: function 13 (queue_Queue_Put)

-- NOT PRINTED: function 14 (queue_Queue_Len)

/-! ### inquestlaw19_lives: function 10 -/
theorem ret_i64 {a b : Int} (h : a = b) : Ending.returned (.int .i64 a) = .returned (.int .i64 b) := by rw [h]
theorem ret_bool {a b : Bool} (h : a = b) : Ending.returned (.bool a) = .returned (.bool b) := by rw [h]
theorem q_info3 : (Try.prog.info? 3).map (fun i => (i.zero, i.size, i.bytes)) = some (some (.int .i64 0), 1, 8) := by kernel_rfl
/-- But for block g, and the row's own block, nothing that was there has turned. -/
structure Upd (W W' : World) (g : Nat) (row : Option Nat) : Prop where
  os : W'.os = W.os
  tape : W'.tape = W.tape
  output : W'.output = W.output
  size : W.heap.size ≤ W'.heap.size
  block : ∀ k, k < W.heap.size → k ≠ g → some k ≠ row → W'.heap[k]? = W.heap[k]?
theorem Upd.of_below {W W' : World} (h : Below W.heap.size W W') (g : Nat) (row : Option Nat) : Upd W W' g row := ⟨h.os, h.tape, h.output, h.size, fun k hk _ _ => h.block k hk⟩
theorem Upd.of_grown {W W' : World} {row : Option Nat} (h : W.grownBy W' row) (g : Nat) : Upd W W' g row := ⟨h.os, h.tape, h.output, h.size, fun k hk _ hr => h.block k hk hr⟩
theorem Upd.set {W W' : World} {g : Nat} {row : Option Nat} (h : Upd W W' g row) (j : Nat) (u : Value) : Upd W (W'.setCell ⟨g, j, none⟩ u) g row :=
  ⟨h.os, h.tape, h.output, by have := h.size; simpa [World.setCell] using this, fun k hk hg hr => (Below.heap_setCell _ _ _ _ hg).trans (h.block k hk hg hr)⟩
theorem Upd.below {w W W' : World} {B g : Nat} {row : Option Nat} (h : Upd W W' g row) (hB : Below B w W) (hs : B ≤ W.heap.size) (hg : B ≤ g) (hr : ∀ k, row = some k → B ≤ k) : Below B w W' :=
  ⟨h.os.trans hB.os, h.tape.trans hB.tape, h.output.trans hB.output, Nat.le_trans hB.size h.size, fun k hk => (h.block k (by omega) (by omega) (fun e => by have := hr k e.symm; omega)).trans (hB.block k hk)⟩
/-- Where the row lies behind a call: where it lay, or in a new block. -/
def Lies (W : World) (v v' : Value) : Prop := v'.ownBlock = v.ownBlock ∨ ∃ b, v'.ownBlock = some b ∧ W.heap.size ≤ b
/-- A queue in memory: block g, its row v. -/
structure QS (T : Nat) (base : Nat) (W : World) (g : Nat) (most : Int) (v : Value) (xs : List Int) : Prop where
  blk : W.heap[g]? = some (.cells #[.int .i64 most, v] T (0, 0))
  row : (Kd.int .i64).R 3 W base (fun _ => True) v xs
  hg : base ≤ g
theorem q_idx_step {k : Nat} {xs : List Int} (h : k < xs.length) : xs.drop k = rd xs k :: xs.drop (k + 1) := by
  rw [List.drop_eq_getElem_cons h]; congr 1; simp [rd, h]
/-- Where a number stands; -1: nowhere. -/
def qidx (v : Int) : List Int → Int → Int
  | [], _ => -1
  | x :: xs, i => if v = x then i else qidx v xs (i + 1)
set_option maxHeartbeats 400000 in
theorem q_Index (A : Option Addr) (c : Nat) (xs : List Int) (v : Int) (w : World) (hC : (Kd.int .i64).C w A xs.length xs) :
    Calls Try.prog 24 #[.slice A xs.length c, .int .i64 v] w fun e w' => e = .returned (.int .i64 (qidx v xs 0)) ∧ w = w' := by
  have hm := Kd.C_max hC
  go_enter Try.func24, Try.ntmps24
  go_wp2
  go_loop [5, 8] (fun _ t => ∃ k : Nat, k ≤ xs.length ∧ t = .int .i64 k ∧ Aside0 (qidx v (xs.drop k) k = qidx v xs 0)) (fun _ t => xs.length - (intOf t).toNat)
  case atStart => exact ⟨0, Nat.zero_le _, rfl, ⟨rfl⟩⟩
  case round =>
    obtain ⟨k, hk, rfl, hq⟩ := hrel
    by_cases hlt : k < xs.length
    · obtain ⟨ad, rfl, hx⟩ := Kd.at_int hC (k : Int) (Int.natCast_nonneg k) (by omega)
      simp only [Int.toNat_natCast] at hx
      have hq2 := hq.out
      rw [q_idx_step hlt] at hq2
      simp only [qidx] at hq2
      have p0 : (0 : Int) ≤ (k : Int) := Int.natCast_nonneg k
      have p1 : (k : Int) < (xs.length : Int) := by omega
      clear hq
      by_cases hv : v = rd xs (k : Int)
      · rw [if_pos hv] at hq2
        have hb : (v == rd xs (k : Int)) = true := beq_iff_eq.mpr hv
        clear hv
        replace hq2 := Aside0.mk hq2
        go_wp2
        go_ret
        exact ⟨ret_i64 hq2.out, rfl⟩
      · rw [if_neg hv] at hq2
        have hb : (v == rd xs (k : Int)) = false := beq_eq_false_iff_ne.mpr hv
        clear hv
        replace hq2 := Aside0.mk hq2
        go_wp2
        go_round
        case rel => exact ⟨k + 1, by omega, by go_num, hq2⟩
        case measure => simp [intOf]; omega
    · obtain rfl : k = xs.length := by omega
      have hq2 := hq.out
      rw [List.drop_of_length_le (Nat.le_refl _)] at hq2
      simp only [qidx] at hq2
      replace hq2 := Aside0.mk hq2
      clear hq
      go_wp2
      go_ret
      exact ⟨ret_i64 hq2.out, rfl⟩
theorem qidx_neg (v : Int) : ∀ (xs : List Int) (i : Int), 0 ≤ i → (0 ≤ qidx v xs i ↔ v ∈ xs)
  | [], i, hi => by simp [qidx]
  | x :: xs, i, hi => by
    unfold qidx
    by_cases h : v = x
    · rw [if_pos h]; subst h; simp [hi]
    · rw [if_neg h, qidx_neg v xs (i + 1) (by omega)]; simp [h]
set_option maxHeartbeats 400000 in
theorem q_Contains (A : Option Addr) (c : Nat) (xs : List Int) (v : Int) (b : Bool) (w : World) (hC : (Kd.int .i64).C w A xs.length xs) (hb : decide (v ∈ xs) = b) :
    Calls Try.prog 23 #[.slice A xs.length c, .int .i64 v] w fun e w' => e = .returned (.bool b) ∧ w = w' := by
  have hq : decide (0 ≤ qidx v xs 0) = b := by rw [← hb]; exact decide_eq_decide.mpr (qidx_neg v xs 0 (by omega))
  clear hb
  go_enter Try.func23, Try.ntmps23
  go_wp2_with (go_at_call 24; (with_reducible refine (q_Index A c xs v _ hC).mono ?_); rintro e w' ⟨rfl, rfl⟩)
  go_ret
  exact ⟨rfl, rfl⟩
theorem q_New_ok (most : Int) (w : World) (h1 : 1 ≤ most) (h2 : most ≤ 8) :
    Calls Try.prog 12 #[.int .i64 most] w fun e w' => e = .returned (.tuple #[.pointer (some ⟨w.heap.size, 0, none⟩), .int .i64 0]) ∧ w' = w.alloc (.cells #[.int .i64 most, .slice none 0 0] 53) := by
  have hu := Try.underlying53
  go_enter Try.func12, Try.ntmps12
  go_wp2
  go_ret2
  exact ⟨rfl, rfl⟩
theorem q_New_err (most : Int) (w : World) (h : most < 1 ∨ 8 < most) :
    Calls Try.prog 12 #[.int .i64 most] w fun e w' => e = .returned (.tuple #[.pointer none, .int .i64 2]) ∧ w = w' := by
  rcases h with h | h
  · go_enter Try.func12, Try.ntmps12
    go_wp2
    go_ret2
    exact ⟨rfl, rfl⟩
  · have h' : ¬ most < 1 := by omega
    go_enter Try.func12, Try.ntmps12
    go_wp2
    go_ret2
    exact ⟨rfl, rfl⟩
theorem qs_new (w : World) (most : Int) (T : Nat) : QS T w.heap.size (w.alloc (.cells #[.int .i64 most, .slice none 0 0] T)) w.heap.size most (.slice none 0 0) [] :=
  ⟨blk_new w _, Kd.R_nil _ _ _ _ _, Nat.le_refl _⟩
/-- What Put answers, and what waits behind it. -/
def putE (most : Int) (xs : List Int) (job : Int) : Int := if job < 0 then 2 else if job ∈ xs then 10 else if most ≤ (xs.length : Int) then 11 else 0
def putL (most : Int) (xs : List Int) (job : Int) : List Int := if putE most xs job = 0 then xs ++ [job] else xs
theorem q_gen {P : World → Prop} (w : World) (F : World → Prop) (hF : F w) (h : ∀ W, F W → P W) : P w := h w hF
theorem upd_trans {W W1 W2 : World} {g : Nat} {row : Option Nat} (h : Below W.heap.size W W1) (k : Upd W1 W2 g row) : Upd W W2 g row :=
  ⟨k.os.trans h.os, k.tape.trans h.tape, k.output.trans h.output, Nat.le_trans h.size k.size, fun i hi hg hr => (k.block i (Nat.lt_of_lt_of_le hi h.size) hg hr).trans (h.block i hi)⟩
theorem lies_below {W W1 : World} {v v' : Value} (h : Below W.heap.size W W1) (k : Lies W1 v v') : Lies W v v' := k.imp id (fun ⟨b, hb, hl⟩ => ⟨b, hb, Nat.le_trans h.size hl⟩)
/-- What a call on a queue comes to. -/
def QPost (T base g : Nat) (most : Int) (v : Value) (xs : List Int) (W : World) (r : Value) (ys : List Int) (e : Ending) (W' : World) : Prop :=
  ∃ v', e = .returned r ∧ QS T base W' g most v' ys ∧ Upd W W' g v.ownBlock ∧ Lies W v v'
set_option maxHeartbeats 1000000 in
theorem q_Put {base g : Nat} {most : Int} {v : Value} {xs : List Int} {W : World} (job : Int) (h : QS 53 base W g most v xs) (hl : xs.length ≤ 1000000) (hm : most ≠ 0) :
    Calls Try.prog 13 #[.pointer (some ⟨g, 0, none⟩), .int .i64 job] W (QPost 53 base g most v xs W (.int .i64 (putE most xs job)) (putL most xs job)) := by
  have hu := Try.underlying53
  obtain ⟨A, c, rfl⟩ := Kd.R_slice h.row
  obtain ⟨_, hcc, hC⟩ := Kd.R_reads' h.row
  have hne := Kd.R_ne h.row h.blk (by decide)
  have c0 := blk_cell h.blk 0
  have c1 := blk_cell h.blk 1
  have f1 := blk_frozen h.blk 1
  simp only [List.getElem?_toArray, List.getElem?_cons_zero, List.getElem?_cons_succ] at c0 c1
  have hmb : (most == 0) = false := beq_eq_false_iff_ne.mpr hm
  have hR := Aside0.mk h.row
  have hB := Aside0.mk h.blk
  have hg := Aside0.mk h.hg
  have hml := Kd.C_max hC
  unfold putL
  by_cases hj : job < 0
  · have hE : putE most xs job = 2 := if_pos hj
    rw [hE, if_neg (by decide)]
    have hjb : decide (job < 0) = true := decide_eq_true hj
    clear hj hm hE h
    go_enter Try.func13, Try.ntmps13
    go_wp2
    go_ret
    exact ⟨_, rfl, ⟨hB.out, hR.out, hg.out⟩, Upd.of_below (Below.refl _ _) _ _, .inl rfl⟩
  · have hjb : decide (job < 0) = false := decide_eq_false hj
    by_cases hi : job ∈ xs
    · have hE : putE most xs job = 10 := by unfold putE; rw [if_neg hj, if_pos hi]
      rw [hE, if_neg (by decide)]
      have hib := Aside0.mk (decide_eq_true hi)
      clear hj hm hE h hi
      go_enter Try.func13, Try.ntmps13
      go_wp2_with (go_at_call 23; (with_reducible refine (q_Contains A c xs job true _ hC hib.out).mono ?_); rintro e w' ⟨rfl, rfl⟩)
      go_ret
      exact ⟨_, rfl, ⟨hB.out, hR.out, hg.out⟩, Upd.of_below (Below.refl _ _) _ _, .inl rfl⟩
    · have hib := Aside0.mk (decide_eq_false hi)
      by_cases hf : most ≤ (xs.length : Int)
      · have hE : putE most xs job = 11 := by unfold putE; rw [if_neg hj, if_neg hi, if_pos hf]
        rw [hE, if_neg (by decide)]
        have hfb : decide (most ≤ (xs.length : Int)) = true := decide_eq_true hf
        clear hj hm hE h hi hf
        go_enter Try.func13, Try.ntmps13
        go_wp2_with (go_at_call 23; (with_reducible refine (q_Contains A c xs job false _ hC hib.out).mono ?_); rintro e w' ⟨rfl, rfl⟩)
        go_quiet (fail)
        go_wp2
        go_ret
        exact ⟨_, rfl, ⟨blk_drewN hB.out _, Kd.R_drewN hR.out _, hg.out⟩, Upd.of_below (pw_below_drewN (Below.refl _ _) _) _ _, .inl rfl⟩
      · have hE : putE most xs job = 0 := by unfold putE; rw [if_neg hj, if_neg hi, if_neg hf]
        rw [hE, if_pos rfl]
        have hfb : decide (most ≤ (xs.length : Int)) = false := decide_eq_false hf
        clear hj hm hE h hi hf
        go_enter Try.func13, Try.ntmps13
        go_wp2_with (go_at_call 23; (with_reducible refine (q_Contains A c xs job false _ hC hib.out).mono ?_); rintro e w' ⟨rfl, rfl⟩)
        go_quiet (fail)
        refine q_gen _ (fun W0 => W0.heap[g]? = some (.cells #[.int .i64 most, .slice A xs.length c] 53 (0, 0)) ∧ (Kd.int .i64).R 3 W0 base (fun _ => True) (.slice A xs.length c) xs ∧ Below W.heap.size W W0) ⟨blk_drewN hB.out _, Kd.R_drewN hR.out _, pw_below_drewN (Below.refl _ _) _⟩ ?_
        clear c0 c1 f1 hR hB
        rintro W1 ⟨hB1, hR1, hb1⟩
        have c0 := blk_cell hB1 0
        have c1 := blk_cell hB1 1
        have f1 := blk_frozen hB1 1
        simp only [List.getElem?_toArray, List.getElem?_cons_zero, List.getElem?_cons_succ] at c0 c1
        replace hB1 := Aside0.mk hB1
        replace hR1 := Aside0.mk hR1
        replace hb1 := Aside0.mk hb1
        replace hne := Aside0.mk hne
        have hbs : Aside0 (base ≤ W1.heap.size) := ⟨by have := blk_lt hB1.out; have := hg.out; omega⟩
        go_wp2_with (at_builtin; refine Kd.R_append (Kd.int .i64) (w0 := W1) base rfl (.tmp 40) (.tmp 42) 30 3 (.int .i64 0) 8 rfl Try.underlying30 q_info3 rfl (by decide) (by omega) (.slice A xs.length c) xs job [.int .i64 job] (fun _ => True) (fun _ => False) rfl rfl rfl (fun _ hk => hk.elim) (fun _ _ => trivial) hR1.out (Below.refl base W1) hbs.out (by omega) ?_; intro v1 w1 hR2 hb2 hg2 hat2; obtain ⟨A1, e0, rfl⟩ := Kd.R_slice hR2; rw [show (xs ++ [job]).length = xs.length + 1 from List.length_append] at hR2 hat2; have hk := blk_grown hB1.out hg2 hne.out; have d1 : w1.cell? ⟨g, 1, none⟩ = some (.slice A xs.length c) := (blk_cell hk 1).trans rfl; have e1 := blk_frozen hk 1; replace hk := Aside0.mk hk; replace hR2 := Aside0.mk hR2; replace hg2 := Aside0.mk hg2; replace hat2 := Aside0.mk hat2; clear hb2)
        go_ret
        exact ⟨_, rfl, ⟨blk_put hk.out 1 _ rfl, Kd.R_set hR2.out hk.out (by decide) 1 _, hg.out⟩, upd_trans hb1.out (Upd.set (Upd.of_grown hg2.out g) 1 _), lies_below hb1.out hat2.out⟩
/-- Len. -/
theorem q_Len {base g : Nat} {most : Int} {v : Value} {xs : List Int} {W : World} (h : QS 53 base W g most v xs) :
    Calls Try.prog 14 #[.pointer (some ⟨g, 0, none⟩)] W fun e W' => e = .returned (.int .i64 xs.length) ∧ W = W' := by
  have hu := Try.underlying53
  obtain ⟨A, c, rfl⟩ := Kd.R_slice h.row
  have c1 := blk_cell h.blk 1
  simp only [List.getElem?_toArray, List.getElem?_cons_zero, List.getElem?_cons_succ] at c1
  clear h
  go_enter Try.func14, Try.ntmps14
  go_wp2
  go_ret
  exact ⟨rfl, rfl⟩
def inquestlaw19_lives.f : Option (Bool) := some true
set_option maxHeartbeats 1000000 in
theorem inquestlaw19_lives.calls (r : Bool) (w : World) (h : inquestlaw19_lives.f = some r) : Calls Try.prog 10 #[] w fun e w' => e = .returned (.bool r) ∧ Below w.heap.size w w' := by
  obtain rfl : true = r := Option.some.inj h
  clear h
  have hq := Aside0.mk (qs_new w 2 53)
  have hb := Aside0.mk (below_alloc (Below.refl w.heap.size w) (.cells #[.int .i64 2, .slice none 0 0] 53))
  go_enter Try.func10, Try.ntmps10
  go_wp2_with (first | (go_at_call 12; (with_reducible refine (q_New_ok 2 _ (by decide) (by decide)).mono ?_); rintro e w' ⟨rfl, rfl⟩) | (go_at_call 13; (with_reducible refine (q_Put 7 hq.out (by decide) (by decide)).mono ?_); rintro e w' ⟨v', rfl, hq2, hu2, hl2⟩; replace hq2 := Aside0.mk hq2; replace hb := Aside0.mk (hu2.below hb.out (by simp) (Nat.le_refl _) (fun _ e => by cases e)); clear hu2 hl2) | (go_at_call 14; (with_reducible refine (q_Len hq2.out).mono ?_); rintro e w' ⟨rfl, rfl⟩))
  go_ret
  exact ⟨rfl, hb.out⟩

-- NOT PRINTED: function 15 (queue_Queue_First)

-- NOT PRINTED: function 25 (slices_Delete_int_int)

-- NOT PRINTED: function 16 (queue_Queue_Done)

/-! ### inquestlaw19_QueueOrder: function 5 -/
theorem q_First_nil (w : World) : Calls Try.prog 15 #[.pointer none] w fun e w' => e = .returned (.tuple #[.int .i64 0, .bool false]) ∧ w = w' := by
  go_enter Try.func15, Try.ntmps15
  go_wp2
  go_ret2
  exact ⟨rfl, rfl⟩
theorem q_Put_nil (n : Int) (w : World) : Calls Try.prog 13 #[.pointer none, .int .i64 n] w fun e w' => e = .returned (.int .i64 1) ∧ w = w' := by
  go_enter Try.func13, Try.ntmps13
  go_wp2
  go_ret
  exact ⟨rfl, rfl⟩
theorem q_Done_nil (n : Int) (w : World) : Calls Try.prog 16 #[.pointer none, .int .i64 n] w fun e w' => e = .returned (.int .i64 1) ∧ w = w' := by
  go_enter Try.func16, Try.ntmps16
  go_wp2
  go_ret
  exact ⟨rfl, rfl⟩
theorem q_Len_nil (w : World) : Calls Try.prog 14 #[.pointer none] w fun e w' => e = .returned (.int .i64 0) ∧ w = w' := by
  go_enter Try.func14, Try.ntmps14
  go_wp2
  go_ret
  exact ⟨rfl, rfl⟩
theorem q_Waiting_nil (w : World) : Calls Try.prog 21 #[.pointer none] w fun e w' => e = .returned (.slice none 0 0) ∧ w = w' := by
  go_enter Try.func21, Try.ntmps21
  go_wp2
  go_ret
  exact ⟨rfl, rfl⟩
theorem q_Put_plain {base g : Nat} {v : Value} {xs : List Int} (n : Int) (w : World) (h : QS 53 base w g 0 v xs) : Calls Try.prog 13 #[.pointer (some ⟨g, 0, none⟩), .int .i64 n] w fun e w' => e = .returned (.int .i64 1) ∧ w = w' := by
  have hu := Try.underlying53
  have c0 := blk_cell h.blk 0
  simp only [List.getElem?_toArray, List.getElem?_cons_zero, List.getElem?_cons_succ] at c0
  clear h
  go_enter Try.func13, Try.ntmps13
  go_wp2
  go_ret
  exact ⟨rfl, rfl⟩
theorem q_Done_plain {base g : Nat} {v : Value} {xs : List Int} (n : Int) (w : World) (h : QS 53 base w g 0 v xs) : Calls Try.prog 16 #[.pointer (some ⟨g, 0, none⟩), .int .i64 n] w fun e w' => e = .returned (.int .i64 1) ∧ w = w' := by
  have hu := Try.underlying53
  have c0 := blk_cell h.blk 0
  simp only [List.getElem?_toArray, List.getElem?_cons_zero, List.getElem?_cons_succ] at c0
  clear h
  go_enter Try.func16, Try.ntmps16
  go_wp2
  go_ret
  exact ⟨rfl, rfl⟩
/-- First. -/
def firstV (xs : List Int) : Int := if xs.length = 0 then 0 else rd xs 0
theorem q_First {base g : Nat} {most : Int} {v : Value} {xs : List Int} (w : World) (h : QS 53 base w g most v xs) :
    Calls Try.prog 15 #[.pointer (some ⟨g, 0, none⟩)] w fun e w' => e = .returned (.tuple #[.int .i64 (firstV xs), .bool (decide (0 < xs.length))]) ∧ w = w' := by
  have hu := Try.underlying53
  obtain ⟨A, c, rfl⟩ := Kd.R_slice h.row
  obtain ⟨_, hcc, hC⟩ := Kd.R_reads' h.row
  have c1 := blk_cell h.blk 1
  simp only [List.getElem?_toArray, List.getElem?_cons_zero, List.getElem?_cons_succ] at c1
  clear h
  by_cases hx : xs.length = 0
  · have hb : ((xs.length : Int) == 0) = true := by simp [hx]
    rw [show firstV xs = 0 from if_pos hx, decide_eq_false (by omega)]
    clear hx
    go_enter Try.func15, Try.ntmps15
    go_wp2
    go_ret2
    exact ⟨rfl, rfl⟩
  · have hb : ((xs.length : Int) == 0) = false := beq_eq_false_iff_ne.mpr (by omega)
    rw [show firstV xs = rd xs 0 from if_neg hx, decide_eq_true (by omega)]
    have hp : (0 : Int) < (xs.length : Int) := by omega
    obtain ⟨ad, rfl, hy⟩ := Kd.at_int hC 0 (Int.le_refl _) hp
    rw [show ((0 : Int)).toNat = 0 from rfl, Addr.add_zero'] at hy
    have hq : (0 < xs.length) = True := eq_true (by omega)
    clear hx
    go_enter Try.func15, Try.ntmps15
    go_wp2
    go_ret2
    exact ⟨rfl, rfl⟩
theorem r_empty (w : World) : (Kd.scalar (Value.int .i64) (fun _ => rfl)).R 3 (w.alloc (.cells #[] 3)) w.heap.size (fun _ => True) (.slice (some ⟨w.heap.size, 0, none⟩) 0 0) [] := by
  refine Kd.R_of_own ⟨rfl, .inr ⟨w.heap.size, 0, #[], rfl, Nat.le_refl _, blk_new w _, Nat.le_refl _, Nat.zero_le _, rfl, rfl⟩⟩ (fun _ _ => trivial)
theorem q_nil (W : World) (A : Option Addr) (n c n' c' : Nat) : (binOp .eql 30 (.slice A n c) (.slice none n' c')).run Try.prog W = .ok (.bool A.isNone) W := Lib.run_eql_slice_nil W 30 3 A n c n' c' Try.underlying30
theorem q_Clone_nil (w : World) : Calls Try.prog 27 #[.slice none 0 0] w fun e w' => e = .returned (.slice none 0 0) ∧ w = w' := by
  have hq := q_nil
  go_enter Try.func27, Try.ntmps27
  go_wp2
  go_ret
  exact ⟨rfl, rfl⟩
theorem q_Waiting_new {base g : Nat} {most : Int} {xs : List Int} (w : World) (h : QS 53 base w g most (.slice none 0 0) xs) :
    Calls Try.prog 21 #[.pointer (some ⟨g, 0, none⟩)] w fun e w' => e = .returned (.slice none 0 0) ∧ w = w' := by
  have hu := Try.underlying53
  have c1 := blk_cell h.blk 1
  simp only [List.getElem?_toArray, List.getElem?_cons_zero, List.getElem?_cons_succ] at c1
  clear h
  go_enter Try.func21, Try.ntmps21
  go_wp2_with (go_at_call 27; (with_reducible refine (q_Clone_nil _).mono ?_); rintro e w' ⟨rfl, rfl⟩)
  go_ret
  exact ⟨rfl, rfl⟩
set_option maxHeartbeats 1000000 in
/-- Clone. -/
theorem q_Clone {base : Nat} {v : Value} {xs : List Int} (w : World) (h : (Kd.int .i64).R 3 w base (fun _ => True) v xs) (hl : xs.length ≤ 1000000) :
    Calls Try.prog 27 #[v] w fun e w' => ∃ v', e = .returned v' ∧ (Kd.int .i64).R 3 w' w.heap.size (fun _ => True) v' xs ∧ Below w.heap.size w w' := by
  have hq := q_nil
  obtain ⟨A, c, rfl⟩ := Kd.R_slice h
  obtain ⟨_, hcc, hC⟩ := Kd.R_reads' h
  have hC' := Aside0.mk hC
  cases A with
  | none =>
    have hx : xs = [] := by
      cases xs with
      | nil => rfl
      | cons x xs => obtain ⟨ad, e, _⟩ := Kd.at_int hC 0 (by omega) (by simp); cases e
    subst hx
    clear hC h
    go_enter Try.func27, Try.ntmps27
    go_wp2
    exact bodyPost_ret (v := .slice none 0 0) (by simp [results, Try.results27, go_sem]) rfl ⟨_, rfl, Kd.R_nil _ _ _ _ _, Below.refl _ _⟩
  | some ad =>
    clear hC h
    go_enter Try.func27, Try.ntmps27
    go_wp2_with (at_builtin; refine Kd.R_append_row (Value.int .i64) 0 (h1 := fun _ => rfl) (w0 := w) w.heap.size rfl (.tmp 5) (.tmp 6) 30 3 (.int .i64 0) 8 rfl Try.underlying30 q_info3 rfl (by decide) (.slice (some ⟨w.heap.size, 0, none⟩) 0 0) [] xs (some ad) xs.length c (fun _ => True) rfl rfl (fun _ _ => trivial) (r_empty _) (Kd.C_alloc hC'.out _) (below_alloc (Below.refl _ w) _) (by simp) (by rw [List.length_nil]; omega) ?_; intro v1 w1 hR hB hg hat; rw [List.nil_append] at hR; replace hR := Aside0.mk hR; replace hB := Aside0.mk hB; clear hg hat)
    exact bodyPost_ret (v := v1) (by simp [results, Try.results27, go_sem]) rfl ⟨_, rfl, hR.out, hB.out⟩
theorem q_Waiting {base g : Nat} {most : Int} {v : Value} {xs : List Int} (w : World) (h : QS 53 base w g most v xs) (hl : xs.length ≤ 1000000) :
    Calls Try.prog 21 #[.pointer (some ⟨g, 0, none⟩)] w fun e w' => ∃ v', e = .returned v' ∧ (Kd.int .i64).R 3 w' w.heap.size (fun _ => True) v' xs ∧ Below w.heap.size w w' := by
  have hu := Try.underlying53
  have hR := Aside0.mk h.row
  obtain ⟨A, c, rfl⟩ := Kd.R_slice h.row
  have c1 := blk_cell h.blk 1
  simp only [List.getElem?_toArray, List.getElem?_cons_zero, List.getElem?_cons_succ] at c1
  clear h
  go_enter Try.func21, Try.ntmps21
  go_wp2_with (go_at_call 27; (with_reducible refine (q_Clone _ hR.out hl).mono ?_); rintro e w' ⟨v', rfl, hR', hB'⟩; replace hR' := Aside0.mk hR'; replace hB' := Aside0.mk hB')
  exact bodyPost_ret (v := v') (by simp [results, Try.results21, go_sem]) rfl ⟨_, rfl, hR'.out, hB'.out⟩
/-- A cell behind the row's end is written. -/
theorem r_behind {base g n c j : Nat} {W : World} {xs : List Int} {ok : Nat → Prop} (h : (Kd.int .i64).R 3 W base ok (.slice (some ⟨g, 0, none⟩) n c) xs) (hj : xs.length ≤ j) (u : Value) : (Kd.int .i64).R 3 (W.setCell ⟨g, j, none⟩ u) base ok (.slice (some ⟨g, 0, none⟩) n c) xs := by
  have ho := Kd.own_of_R h
  refine Kd.R_of_own ⟨ho.1, ?_⟩ h.1
  rcases ho.2 with ⟨hv, _⟩ | ⟨g', cap, cur, hv, h1, h2, h3, h4, h5, h6⟩
  · cases hv
  · injection hv with e1 e2 e3
    injection e1 with e1
    injection e1 with e1
    subst e1 e2 e3
    refine .inr ⟨g, c, cur.setIfInBounds j u, rfl, h1, blk_set h2 j u, h3, h4, by rw [Array.size_setIfInBounds]; exact h5, ?_⟩
    rw [Array.toList_setIfInBounds, List.take_set, List.set_eq_of_length_le (by rw [List.length_take]; omega)]; exact h6
theorem r_room {base g n c j : Nat} {W : World} {xs : List Int} {ok : Nat → Prop} (h : (Kd.int .i64).R 3 W base ok (.slice (some ⟨g, 0, none⟩) n c) xs) (hj : j < c) : (W.cell? ⟨g, j, none⟩).isSome = true ∧ W.frozen? ⟨g, j, none⟩ = false := by
  have ho := Kd.own_of_R h
  rcases ho.2 with ⟨hv, _⟩ | ⟨g', cap, cur, hv, h1, h2, h3, h4, h5, h6⟩
  · cases hv
  · injection hv with e1 e2 e3
    injection e1 with e1
    injection e1 with e1
    subst e1 e2 e3
    exact ⟨by rw [blk_cell h2 j, Array.getElem?_eq_getElem (by omega)]; rfl, blk_frozen h2 j⟩
theorem sg_trans {W W1 : World} {g : Nat} (h : W.drew.grownBy W1 (some g)) (j : Nat) (u : Value) : W.grownBy (W1.setCell ⟨g, j, none⟩ u) (some g) :=
  ⟨h.os, h.tape, h.output, by have := h.size; simpa [World.setCell] using this, fun k hk hne => (Below.heap_setCell _ _ _ _ (fun e => hne (by rw [e]))).trans (h.block k hk hne)⟩
theorem q_zero3 (w : World) : (zeroValue 3).run Try.prog w = .ok (.int .i64 0) w := by kernel_rfl
theorem q_size3 : (Try.prog.info? 3).map (·.size) = some 1 := by kernel_rfl
theorem q_addr (g k c : Nat) : (if c = k + 1 then some (⟨g, 0, none⟩ : Addr) else some ⟨g, k + 1, none⟩) = if c = k + 1 then some ⟨g, 0, none⟩ else (some (⟨g, 0, none⟩ : Addr)).map (·.add ((k + 1) * (Kd.int .i64).sz)) := by
  split
  · rfl
  · simp [Kd.int, Kd.scalar, add_plain]
set_option maxHeartbeats 4000000 in
theorem q_Delete {base g m c k : Nat} {xs : List Int} (w : World) (HR : (Kd.int .i64).R 3 w base (fun _ => True) (.slice (some ⟨g, 0, none⟩) (m + 1) c) xs) (hk : k ≤ m) (hbase : base ≤ w.heap.size) (hl : m ≤ 1000000) :
    Calls Try.prog 25 #[.slice (some ⟨g, 0, none⟩) (m + 1) c, .int .i64 k, .int .i64 ((k : Int) + 1)] w fun e w' => e = .returned (.slice (some ⟨g, 0, none⟩) m c) ∧ (Kd.int .i64).R 3 w' base (fun _ => True) (.slice (some ⟨g, 0, none⟩) m c) (xs.eraseIdx k) ∧ w.grownBy w' (some g) := by
  obtain ⟨hn, hnc, _⟩ := Kd.R_reads' HR
  have hel : (xs.eraseIdx k).length = m := by rw [List.length_eraseIdx, if_pos (by omega)]; omega
  have hR := Aside0.mk HR
  have hne := Aside0.mk hn
  have hel' := Aside0.mk hel
  have hne1 : ((k : Int) == (k : Int) + 1) = false := beq_eq_false_iff_ne.mpr (by omega)
  have p1 : (0 : Int) ≤ (k : Int) := by omega
  have p2 : (k : Int) ≤ (c : Int) := by omega
  have p3 : (k : Int) + 1 ≤ ((m + 1 : Nat) : Int) := by omega
  have p4 : (k : Int) + 1 ≤ (c : Int) := by omega
  have p5 : (0 : Int) ≤ (k : Int) + 1 := by omega
  have p6 : k ≤ c := by omega
  have p7 : k + 1 ≤ c := by omega
  have p8 : k + 1 ≤ m + 1 := by omega
  have p9 : m < c := by omega
  clear HR hn hel
  go_enter Try.func25, Try.ntmps25
  go_wp2_with fail
  go_region_law (refine Kd.R_delete_step (Kd.int .i64) (w0 := w.drew) base (by rfl) (.tmp 22) (.tmp 25) 30 3 rfl Try.underlying30 q_size3 (g := g) (n := m + 1) (c := c) (k := k) (m := m - k) (c2 := c - (k + 1)) (A := if c = k + 1 then some ⟨g, 0, none⟩ else some ⟨g, k + 1, none⟩) (by rfl) (by rfl) (q_addr g k c) (by omega) (Kd.R_drew hR.out) (Nat.lt_succ_of_le hk) (Below.refl _ _) hbase ?_; intro w1 hR1 hB1 hg1; rw [Nat.add_sub_cancel] at hR1 ⊢; have hcl : ∀ ty, (Builtin.clear_ #[30] ty #[.slice (some ⟨g, m, none⟩) 1 (c - m)]).run Try.prog w1 = .ok (.tuple #[]) (w1.setCells g m (List.replicate 1 (.int .i64 0))) := fun ty => Lib.run_clear_slice w1 30 3 ty (.int .i64 0) Try.underlying30 q_zero3 rfl rfl g m 1 (c - m) (by omega) (fun j hj => (r_room hR1 (by omega)).1) (fun j hj => (r_room hR1 (by omega)).2); replace hR1 := Aside0.mk hR1; replace hg1 := Aside0.mk hg1; clear hB1)
  go_wp2_with fail
  all_goals
    try (have hce : c = k + 1 := by assumption
         subst hce)
    go_ret
    exact ⟨rfl, r_behind (j := m) hR1.out (by rw [hel'.out]; exact Nat.le_refl _) (.int .i64 0), sg_trans hg1.out m (.int .i64 0)⟩
theorem qidx_in (v : Int) : ∀ (xs : List Int) (i : Int), v ∈ xs → ∃ k : Nat, qidx v xs i = i + k ∧ k < xs.length ∧ xs.eraseIdx k = xs.erase v
  | [], i, h => by simp at h
  | x :: xs, i, h => by
    by_cases e : v = x
    · subst e
      exact ⟨0, by unfold qidx; rw [if_pos rfl]; simp, by simp, by simp⟩
    · obtain ⟨k, h1, h2, h3⟩ := qidx_in v xs (i + 1) (by rcases List.mem_cons.1 h with h | h; exact absurd h e; exact h)
      refine ⟨k + 1, by unfold qidx; rw [if_neg e, h1]; push_cast; omega, by simp; omega, ?_⟩
      rw [List.erase_cons_tail (by simp; exact fun h => e h.symm), List.eraseIdx_cons_succ, h3]
theorem qidx_out (v : Int) : ∀ (xs : List Int) (i : Int), v ∉ xs → qidx v xs i = -1
  | [], i, h => rfl
  | x :: xs, i, h => by
    simp at h
    unfold qidx
    rw [if_neg h.1]; exact qidx_out v xs (i + 1) h.2
def doneE (xs : List Int) (job : Int) : Int := if job ∈ xs then 0 else 9
set_option maxHeartbeats 2000000 in
theorem q_Done {base g : Nat} {most : Int} {v : Value} {xs : List Int} {W : World} (job : Int) (h : QS 53 base W g most v xs) (hl : xs.length ≤ 1000000) (hm : most ≠ 0) :
    Calls Try.prog 16 #[.pointer (some ⟨g, 0, none⟩), .int .i64 job] W (QPost 53 base g most v xs W (.int .i64 (doneE xs job)) (xs.erase job)) := by
  have hu := Try.underlying53
  have hne := Kd.R_ne h.row h.blk (by decide)
  have hR := Aside0.mk h.row
  have hB := Aside0.mk h.blk
  have hg := Aside0.mk h.hg
  have hmb : (most == 0) = false := beq_eq_false_iff_ne.mpr hm
  by_cases hi : job ∈ xs
  · have hx : 0 < xs.length := by cases xs with | nil => simp at hi | cons x xs => simp
    obtain ⟨gr, c, rfl, _, _, _⟩ := Kd.R_form h.row hx
    obtain ⟨_, hcc, hC⟩ := Kd.R_reads' h.row
    have c0 := blk_cell h.blk 0
    have c1 := blk_cell h.blk 1
    simp only [List.getElem?_toArray, List.getElem?_cons_zero, List.getElem?_cons_succ] at c0 c1
    obtain ⟨k, e1, e2, e3⟩ := qidx_in job xs 0 hi
    rw [Int.zero_add] at e1
    rw [show doneE xs job = 0 from if_pos hi, ← e3]
    have hml := Kd.C_max hC
    obtain ⟨m, hm1⟩ : ∃ m, xs.length = m + 1 := ⟨xs.length - 1, by omega⟩
    have hbs : base ≤ W.heap.size := by have := blk_lt h.blk; have := h.hg; omega
    have hkm : k ≤ m := by omega
    have hmx : m ≤ 1000000 := by omega
    have hk0 : (0 : Int) ≤ (k : Int) := by omega
    have hk1 : (k : Int) ≤ 1000000 := by omega
    have hkb : decide ((k : Int) < 0) = false := decide_eq_false (by omega)
    have hix := Aside0.mk (q_Index (some ⟨gr, 0, none⟩) c xs job W hC)
    rw [e1, hm1] at hix
    rw [hm1] at hR hB c1 hne
    replace hne := Aside0.mk hne
    have hel : (xs.eraseIdx k).length = m := by rw [List.length_eraseIdx, if_pos e2]; omega
    replace hel := Aside0.mk hel
    clear hC hcc h hm hi hx e1 e2 e3 hml hm1 hl
    go_enter Try.func16, Try.ntmps16
    go_wp2_with (first | (go_at_call 24; (with_reducible refine hix.out.mono ?_); rintro e w' ⟨rfl, rfl⟩) | (go_at_call 25; (with_reducible refine (q_Delete _ hR.out hkm hbs hmx).mono ?_); rintro e w1 ⟨rfl, hR1, hg1⟩; have hk := blk_grown hB.out hg1 hne.out; have d1 : w1.cell? ⟨g, 1, none⟩ = some (.slice (some ⟨gr, 0, none⟩) (m + 1) c) := (blk_cell hk 1).trans rfl; have e1 := blk_frozen hk 1; replace hk := Aside0.mk hk; replace hR1 := Aside0.mk hR1; replace hg1 := Aside0.mk hg1))
    go_ret
    exact ⟨_, rfl, ⟨blk_put hk.out 1 _ rfl, Kd.R_set hR1.out hk.out (by decide) 1 _, hg.out⟩, Upd.set (Upd.of_grown hg1.out g) 1 _, .inl rfl⟩
  · obtain ⟨A, c, rfl⟩ := Kd.R_slice h.row
    obtain ⟨_, hcc, hC⟩ := Kd.R_reads' h.row
    have c0 := blk_cell h.blk 0
    have c1 := blk_cell h.blk 1
    simp only [List.getElem?_toArray, List.getElem?_cons_zero, List.getElem?_cons_succ] at c0 c1
    rw [show doneE xs job = 9 from if_neg hi, List.erase_of_not_mem hi]
    have hix := Aside0.mk (q_Index A c xs job W hC)
    rw [qidx_out job xs 0 hi] at hix
    clear hC hcc h hm hi hl hne
    go_enter Try.func16, Try.ntmps16
    go_wp2_with (first | (go_at_call 24; (with_reducible refine hix.out.mono ?_); rintro e w' ⟨rfl, rfl⟩))
    go_ret
    exact ⟨_, rfl, ⟨hB.out, hR.out, hg.out⟩, Upd.of_below (Below.refl _ _) _ _, .inl rfl⟩
theorem ri_move {W W1 : World} {base : Nat} {v : Value} {xs : List Int} (h : (Kd.int .i64).R 3 W base (fun _ => True) v xs) (hm : ∀ k, v.ownBlock = some k → W1.heap[k]? = W.heap[k]?) : (Kd.int .i64).R 3 W1 base (fun _ => True) v xs :=
  Kd.R_of_own (own_move (Kd.own_of_R h) hm) (fun _ _ => trivial)
theorem ri_upd {W W1 : World} {base g T : Nat} {cs : Array Value} {row : Option Nat} {v : Value} {xs : List Int} (h : (Kd.int .i64).R 3 W base (fun _ => True) v xs) (hb : W.heap[g]? = some (.cells cs T (0, 0))) (hT : 3 ≠ T) (hu : Upd W W1 g row) (hr : v.ownBlock = none ∨ v.ownBlock ≠ row) : (Kd.int .i64).R 3 W1 base (fun _ => True) v xs :=
  ri_move h (fun k hk => hu.block k (Kd.R_lt h k hk) (fun e => Kd.R_ne h hb hT (by rw [hk, e])) (fun e => by rcases hr with hr | hr; rw [hr] at hk; cases hk; exact hr (hk.trans e)))
theorem lies_apart {W : World} {base : Nat} {v v' u : Value} {xs : List Int} (hl : Lies W v v') (hu : (Kd.int .i64).R 3 W base (fun _ => True) u xs) (ha : v.ownBlock = none ∨ v.ownBlock ≠ u.ownBlock) : v'.ownBlock = none ∨ v'.ownBlock ≠ u.ownBlock := by
  rcases hl with e | ⟨b, e, hb⟩
  · rw [e]; exact ha
  · refine .inr (fun h => ?_)
    have := Kd.R_lt hu b (h.symm.trans e)
    omega
theorem apart_symm {u v : Value} (h : u.ownBlock = none ∨ u.ownBlock ≠ v.ownBlock) : v.ownBlock = none ∨ v.ownBlock ≠ u.ownBlock := by
  cases hv : v.ownBlock with
  | none => exact .inl rfl
  | some k =>
    refine .inr (fun e => ?_)
    rcases h with h | h
    · rw [h] at e; cases e
    · exact h (e.symm.trans hv.symm)
/-- The queue, and the list of those that came. -/
structure OSt (w W : World) (g : Nat) (vq vc : Value) (xs cs : List Int) : Prop where
  q : QS 53 w.heap.size W g 8 vq xs
  c : (Kd.int .i64).R 3 W w.heap.size (fun _ => True) vc cs
  ap : vq.ownBlock = none ∨ vq.ownBlock ≠ vc.ownBlock
  hB : Below w.heap.size w W
theorem OSt.call {w W W' : World} {g : Nat} {vq vq' vc : Value} {xs ys cs : List Int} (h : OSt w W g vq vc xs cs) (hq : QS 53 w.heap.size W' g 8 vq' ys) (hu : Upd W W' g vq.ownBlock) (hl : Lies W vq vq') : OSt w W' g vq' vc ys cs :=
  ⟨hq, ri_upd h.c h.q.blk (by decide) hu (apart_symm h.ap), lies_apart hl h.c h.ap, hu.below h.hB h.hB.size h.q.hg (fun k hk => Kd.R_base h.q.row k hk)⟩
theorem OSt.grown {w W W' : World} {g : Nat} {vq vc vc' : Value} {xs cs ds : List Int} (h : OSt w W g vq vc xs cs) (hc : (Kd.int .i64).R 3 W' w.heap.size (fun _ => True) vc' ds) (hg : W.grownBy W' vc.ownBlock) (hl : Lies W vc vc') (hb : Below w.heap.size w W') : OSt w W' g vq vc' xs ds :=
  ⟨⟨blk_grown h.q.blk hg (Kd.R_ne h.c h.q.blk (by decide)), ri_move h.q.row (fun k hk => hg.block k (Kd.R_lt h.q.row k hk) (fun e => by rcases h.ap with ha | ha; rw [ha] at hk; cases hk; exact ha (hk.trans e))), h.q.hg⟩, hc, apart_symm (lies_apart hl h.q.row (apart_symm h.ap)), hb⟩
theorem putE_zero {xs : List Int} {job : Int} (h : putE 8 xs job = 0) : job ∉ xs ∧ xs.length < 8 := by
  unfold putE at h
  split at h
  · cases h
  · split at h
    · cases h
    · split at h
      · cases h
      · exact ⟨by assumption, by omega⟩
def inquestlaw19_QueueOrder.f (l0 : List Int) : Option Bool := some true
set_option maxHeartbeats 4000000 in
set_option maxRecDepth 100000 in
theorem inquestlaw19_QueueOrder.calls (A0 : Option Addr) (c0 : Nat) (l0 : List Int) (r : Bool) (w : World) (hr0 : (Kd.int .i64).C w A0 l0.length l0) (hc0 : l0.length ≤ c0) (h : inquestlaw19_QueueOrder.f l0 = some r) :
    Calls Try.prog 5 #[.slice A0 l0.length c0] w fun e w' => e = .returned (.bool r) ∧ Below w.heap.size w w' := by
  obtain rfl : true = r := Option.some.inj h
  clear h
  obtain ⟨n, hn⟩ : ∃ n, n = (l0.take 100).length := ⟨_, rfl⟩
  have hC : (Kd.int .i64).C w A0 n (l0.take 100) := by
    rw [hn]
    by_cases hl : 100 ≤ l0.length
    · exact Kd.C_take hr0 hl
    · rw [List.take_of_length_le (by omega)]; exact hr0
  have hnc : n ≤ c0 := by rw [hn]; simp; omega
  have hn1 : n ≤ 100 := by rw [hn]; simp; omega
  have hcase : (l0.length > 100 ∧ n = 100) ∨ (l0.length ≤ 100 ∧ n = l0.length) := by rw [hn]; simp; omega
  replace hn := Aside0.mk hn
  generalize l0.take 100 = l at *
  have hC' := Aside0.mk hC
  have hI0 : Aside0 (OSt w (w.alloc (.cells #[.int .i64 8, .slice none 0 0] 53)) w.heap.size (.slice none 0 0) (.slice none 0 0) [] []) := ⟨⟨qs_new w 8 53, Kd.R_nil _ _ _ _ _, .inl rfl, below_alloc (Below.refl _ w) _⟩⟩
  clear hC
  rcases hcase with ⟨hl, rfl⟩ | ⟨hl, rfl⟩
  all_goals
    first | have hb100 : decide ((100 : Int) < (l0.length : Int)) = true := decide_eq_true (by omega) | have hb100 : decide ((100 : Int) < (l0.length : Int)) = false := decide_eq_false (by omega)
    go_enter Try.func5, Try.ntmps5
    go_wp2_with (first | (go_at_call 12; (with_reducible refine (q_New_ok 8 _ (by decide) (by decide)).mono ?_); rintro e w' ⟨rfl, rfl⟩))
    go_loopg [5, 6] l.length (fun kk vc v6 W => ∃ (i : Nat) (vq : Value) (cs : List Int), v6 = .int .i64 i ∧ Aside0 (kk + i = l.length) ∧ Aside0 (OSt w W w.heap.size vq vc cs cs) ∧ Aside0 (cs.Nodup) ∧ Aside0 (cs.length ≤ 8))
    case atStart => exact ⟨0, _, [], rfl, ⟨rfl⟩, hI0, ⟨List.nodup_nil⟩, ⟨by simp⟩⟩
    case round =>
      obtain ⟨i, vq, cs, rfl, hk, hI, hnd, hlen⟩ := hrel
      have hne := hn.out
      obtain ⟨A1, c1, rfl⟩ := Kd.R_slice hI.out.c
      by_cases hil : i < l.length
      · obtain ⟨j, rfl⟩ : ∃ j, gk = j + 1 := ⟨gk - 1, by have := hk.out; omega⟩
        have p0 : (0 : Int) ≤ (i : Int) := Int.natCast_nonneg i
        obtain ⟨ad, ea, hxw⟩ := Kd.at_int hC'.out (i : Int) p0 (by omega)
        subst ea
        have p1 : (i : Int) < (l.length : Int) := by omega
        rw [← hne] at p1
        replace hne := Aside0.mk hne
        simp only [Int.toNat_natCast] at hxw
        have hx := pw_cell_below hI.out.hB hxw
        replace hxw := Aside0.mk hxw
        generalize rd l (i : Int) = jb at *
        by_cases hp : putE 8 cs jb = 0
        · obtain ⟨h1, h2⟩ := putE_zero hp
          have hL := Aside0.mk (show putL 8 cs jb = cs ++ [jb] from if_pos hp)
          have hpb : (putE 8 cs jb == 0) = true := beq_iff_eq.mpr hp
          replace hp := Aside0.mk hp
          replace h1 := Aside0.mk h1
          go_wp2_with (first | (go_at_call 13; (with_reducible refine (q_Put jb hI.out.q (by have := hlen.out; omega) (by decide)).mono ?_); rintro e w1 ⟨v', rfl, hq1, hu1, hl1⟩; rw [hL.out] at hq1; have hI1 := Aside0.mk (hI.out.call hq1 hu1 hl1); have hx1 := pw_cell_below hI1.out.hB hxw.out; clear hq1 hu1 hl1) | (at_builtin; refine Kd.R_append (Kd.int .i64) (w0 := w) w.heap.size rfl (.tmp 34) (.tmp 39) 30 3 (.int .i64 0) 8 rfl Try.underlying30 q_info3 rfl (by decide) (by omega) (.slice A1 cs.length c1) cs jb [.int .i64 jb] (fun _ => True) (fun _ => False) rfl rfl rfl (fun _ hk => hk.elim) (fun _ _ => trivial) hI1.out.c hI1.out.hB hI1.out.hB.size (by have := hlen.out; omega) ?_; intro v2 w2 hR2 hb2 hg2 hat2; have hI2 := Aside0.mk (hI1.out.grown hR2 hg2 hat2 hb2); clear hR2 hb2 hg2 hat2))
          go_roundg j
          case measure => omega
          case rel => exact ⟨i + 1, _, cs ++ [jb], by go_num, ⟨by have := hk.out; omega⟩, hI2, ⟨List.nodup_append.2 ⟨hnd.out, by simp, fun a ha b hb => by rw [List.mem_singleton.1 hb]; exact fun e => h1.out (e ▸ ha)⟩⟩, ⟨by simp; omega⟩⟩
        · have hL := Aside0.mk (show putL 8 cs jb = cs from if_neg hp)
          have hpb : (putE 8 cs jb == 0) = false := beq_eq_false_iff_ne.mpr hp
          clear hp
          go_wp2_with (first | (go_at_call 13; (with_reducible refine (q_Put jb hI.out.q (by have := hlen.out; omega) (by decide)).mono ?_); rintro e w1 ⟨v', rfl, hq1, hu1, hl1⟩; rw [hL.out] at hq1; have hI1 := Aside0.mk (hI.out.call hq1 hu1 hl1); clear hq1 hu1 hl1))
          go_roundg j
          case measure => omega
          case rel => exact ⟨i + 1, _, cs, by go_num, ⟨by have := hk.out; omega⟩, hI1, hnd, hlen⟩
      · obtain rfl : i = l.length := by have := hk.out; omega
        have h8 : decide ((8 : Int) < (cs.length : Int)) = false := decide_eq_false (by have := hlen.out; omega)
        have hI' : Aside0 (OSt w wr w.heap.size vq (.slice A1 cs.length c1) (cs.drop 0) cs) := hI
        go_wp2_with (first | (go_at_call 14; (with_reducible refine (q_Len hI.out.q).mono ?_); rintro e w' ⟨rfl, rfl⟩))
        clear hI
        obtain ⟨wo, rfl⟩ : ∃ wo : World, wo = wr := ⟨_, rfl⟩
        go_loopg [7] cs.length (fun kk v7 W => ∃ (i : Nat) (vq : Value), v7 = .int .i64 i ∧ Aside0 (kk + i = cs.length) ∧ Aside0 (OSt w W w.heap.size vq (.slice A1 cs.length c1) (cs.drop i) cs))
        case atStart => exact ⟨0, vq, rfl, ⟨rfl⟩, hI'⟩
        case round =>
          clear hI'
          obtain ⟨i, vq2, rfl, hk2, hI⟩ := hrel
          by_cases hic : i < cs.length
          · obtain ⟨j, rfl⟩ : ∃ j, gk = j + 1 := ⟨gk - 1, by have := hk2.out; omega⟩
            have p0 : (0 : Int) ≤ (i : Int) := Int.natCast_nonneg i
            have p1 : (i : Int) < (cs.length : Int) := by omega
            have p2 : (cs.length : Int) ≤ 8 := by have := hlen.out; omega
            have hd := q_idx_step hic
            have hnj : rd cs (i : Int) ∉ cs.drop (i + 1) := by
              have := (List.nodup_append.1 (by rw [List.take_append_drop i cs]; exact hnd.out)).2.1
              rw [hd] at this
              exact (List.nodup_cons.1 this).1
            have hf := Aside0.mk (q_First wr hI.out.q)
            rw [hd] at hf hI
            rw [show firstV (rd cs (i : Int) :: cs.drop (i + 1)) = rd cs (i : Int) from rfl, decide_eq_true (by simp)] at hf
            have hE1 := Aside0.mk (show doneE (rd cs (i : Int) :: cs.drop (i + 1)) (rd cs (i : Int)) = 0 from if_pos (by simp))
            have hE2 := Aside0.mk (show doneE (cs.drop (i + 1)) (rd cs (i : Int)) = 9 from if_neg hnj)
            have hL1 := Aside0.mk (show (rd cs (i : Int) :: cs.drop (i + 1)).erase (rd cs (i : Int)) = cs.drop (i + 1) by simp)
            have hL2 := Aside0.mk (List.erase_of_not_mem hnj)
            obtain ⟨ad, ea, hx⟩ := Kd.at_int (Kd.R_reads' hI.out.c).2.2 (i : Int) p0 p1
            subst ea
            simp only [Int.toNat_natCast] at hx
            have hbb : (rd cs (i : Int) != rd cs (i : Int)) = false := by simp
            have tok1 : True := trivial
            clear hd hnj
            have hl1 : (rd cs (i : Int) :: cs.drop (i + 1)).length ≤ 1000000 := by have := hlen.out; rw [List.length_cons, List.length_drop]; omega
            have hl2 : (cs.drop (i + 1)).length ≤ 1000000 := by have := hlen.out; rw [List.length_drop]; omega
            replace hl1 := Aside0.mk hl1
            replace hl2 := Aside0.mk hl2
            go_wp2_with (first | (go_at_call 15; (with_reducible refine hf.out.mono ?_); rintro e w' ⟨rfl, rfl⟩) | (go_at_call 16; first | (have t_ := tok1; clear tok1 t_; (with_reducible refine (q_Done (rd cs (i : Int)) hI.out.q hl1.out (by decide)).mono ?_); rintro e w1 ⟨v', rfl, hq1, hu1, hl3⟩; rw [hE1.out]; rw [hL1.out] at hq1; have hI1 := Aside0.mk (hI.out.call hq1 hu1 hl3); clear hq1 hu1 hl3) | ((with_reducible refine (q_Done (rd cs (i : Int)) hI1.out.q hl2.out (by decide)).mono ?_); rintro e w1 ⟨v', rfl, hq1, hu1, hl3⟩; rw [hE2.out]; rw [hL2.out] at hq1; have hI2 := Aside0.mk (hI1.out.call hq1 hu1 hl3); clear hq1 hu1 hl3)))
            go_roundg j
            case measure => omega
            case rel => exact ⟨i + 1, _, by go_num, ⟨by have := hk2.out; omega⟩, hI2⟩
          · obtain rfl : i = cs.length := by have := hk2.out; omega
            have hI3 := hI.out
            rw [List.drop_of_length_le (Nat.le_refl _)] at hI3
            have hlen0 := Aside0.mk (q_Len hI3.q)
            go_wp2_with (first | (go_at_call 14; (with_reducible refine hlen0.out.mono ?_); rintro e w' ⟨rfl, rfl⟩) | (go_at_call 10; (with_reducible refine (inquestlaw19_lives.calls true _ rfl).mono ?_); rintro e w9 ⟨rfl, hb9⟩))
            go_ret
            exact ⟨rfl, hI3.hB.trans (hb9.mono hI3.hB.size)⟩

/-- THE ONE PURE STATEMENT of inquestlaw19_QueueOrder: yours. -/
def inquestlaw19_QueueOrder.Pure : Prop := ∀ (l0 : List Int), l0.length ≤ maxLen → l0.length * 8 ≤ 140737488351232 → (∀ x ∈ l0, (Lit.int .i64 x).wf = true) → inquestlaw19_QueueOrder.f l0 = some true
theorem inquestlaw19_QueueOrder.walk (P : inquestlaw19_QueueOrder.Pure) (a0 : Option Addr) (len0 cap0 : Nat) (z0 : List Int) (w : World) (w0 : (a0 = none ∧ len0 = 0 ∧ cap0 = 0 ∧ z0 = []) ∨ ∃ x, a0 = some x ∧ len0 ≤ cap0 ∧ cap0 ≤ maxLen ∧ z0.length = cap0 ∧ (∀ i, i < z0.length → w.cell? (x.add i) = some (.int .i64 (z0.getD i 0))) ∧ ∀ n ∈ z0, (Lit.int .i64 n).wf = true) (y0 : len0 * 8 ≤ 140737488351232) :
    Calls Try.prog 5 #[.slice a0 len0 cap0] w fun e w' => e = .returned (.bool true) ∧ Below w.heap.size w w' := by
  obtain ⟨l0, rfl, hr0, hm0, hw0, hc0⟩ := ReadsInt.ofRowC w0
  have h := P l0 hm0 y0 hw0
  refine (inquestlaw19_QueueOrder.calls _ _ l0 true w (Kd.C_of_reads (d := (0 : Int)) (h1 := fun _ => rfl) hr0) hc0 h).mono ?_
  rintro e w' ⟨rfl, hd⟩
  exact ⟨rfl, hd⟩

end Go.Proofs.Ytkhacnckajamhaa.PQueueOrder
