-- Written by a program of this session (wip/bin/patch_print.py): a turned copy of the kit's printer. Not trusted: Lean checks it.
import Derived.Test.YtkhacnckajamhaaPQueueTurnsx0
import Derived.Test.YtkhacnckajamhaaPQueueTurnsx1
namespace Go.Proofs.Ytkhacnckajamhaa.PQueueTurns
open Go.RowKit Go.Proofs.YtkhacnckajamhaaW.PrintWords Go.Proofs.YtkhacnckajamhaaW.PrintLast Go.Proofs.YtkhacnckajamhaaW.PrintMore
attribute [local go_sem] max2_int min2_int max_two min_two max_three min_three max_four min_four   -- for this text's walks alone
set_option linter.unusedVariables false
set_option linter.unusedSimpArgs false

/-! ### inquestlaw19_lives: function 10 -/
theorem ret_i64 {a b : Int} (h : a = b) : Ending.returned (.int .i64 a) = .returned (.int .i64 b) := by rw [h]
theorem ret_bool {a b : Bool} (h : a = b) : Ending.returned (.bool a) = .returned (.bool b) := by rw [h]
theorem q_info3 : (Try.prog.info? 3).map (fun i => (i.zero, i.size, i.bytes)) = some (some (.int .i64 0), 1, 8) := by kernel_rfl
/-- But for block g, and the row's own block, nothing that was there has turned. -/
structure Upd (W W' : World) (g : Nat) (row : Option Nat) : Prop where
  os : W'.os = W.os
  tape : W'.tape = W.tape
  output : W'.output = W.output
  size : W.heap.size ≤ W'.heap.size
  block : ∀ k, k < W.heap.size → k ≠ g → some k ≠ row → W'.heap[k]? = W.heap[k]?
theorem Upd.of_below {W W' : World} (h : Below W.heap.size W W') (g : Nat) (row : Option Nat) : Upd W W' g row := ⟨h.os, h.tape, h.output, h.size, fun k hk _ _ => h.block k hk⟩
theorem Upd.of_grown {W W' : World} {row : Option Nat} (h : W.grownBy W' row) (g : Nat) : Upd W W' g row := ⟨h.os, h.tape, h.output, h.size, fun k hk _ hr => h.block k hk hr⟩
theorem Upd.set {W W' : World} {g : Nat} {row : Option Nat} (h : Upd W W' g row) (j : Nat) (u : Value) : Upd W (W'.setCell ⟨g, j, none⟩ u) g row :=
  ⟨h.os, h.tape, h.output, by have := h.size; simpa [World.setCell] using this, fun k hk hg hr => (Below.heap_setCell _ _ _ _ hg).trans (h.block k hk hg hr)⟩
theorem Upd.below {w W W' : World} {B g : Nat} {row : Option Nat} (h : Upd W W' g row) (hB : Below B w W) (hs : B ≤ W.heap.size) (hg : B ≤ g) (hr : ∀ k, row = some k → B ≤ k) : Below B w W' :=
  ⟨h.os.trans hB.os, h.tape.trans hB.tape, h.output.trans hB.output, Nat.le_trans hB.size h.size, fun k hk => (h.block k (by omega) (by omega) (fun e => by have := hr k e.symm; omega)).trans (hB.block k hk)⟩
/-- Where the row lies behind a call: where it lay, or in a new block. -/
def Lies (W : World) (v v' : Value) : Prop := v'.ownBlock = v.ownBlock ∨ ∃ b, v'.ownBlock = some b ∧ W.heap.size ≤ b
/-- A queue in memory: block g, its row v. -/
structure QS (T : Nat) (base : Nat) (W : World) (g : Nat) (most : Int) (v : Value) (xs : List Int) : Prop where
  blk : W.heap[g]? = some (.cells #[.int .i64 most, v] T (0, 0))
  row : (Kd.int .i64).R 3 W base (fun _ => True) v xs
  hg : base ≤ g
theorem q_idx_step {k : Nat} {xs : List Int} (h : k < xs.length) : xs.drop k = rd xs k :: xs.drop (k + 1) := by
  rw [List.drop_eq_getElem_cons h]; congr 1; simp [rd, h]
/-- Where a number stands; -1: nowhere. -/
def qidx (v : Int) : List Int → Int → Int
  | [], _ => -1
  | x :: xs, i => if v = x then i else qidx v xs (i + 1)
set_option maxHeartbeats 400000 in
theorem q_Index (A : Option Addr) (c : Nat) (xs : List Int) (v : Int) (w : World) (hC : (Kd.int .i64).C w A xs.length xs) :
    Calls Try.prog 24 #[.slice A xs.length c, .int .i64 v] w fun e w' => e = .returned (.int .i64 (qidx v xs 0)) ∧ w = w' := by
  have hm := Kd.C_max hC
  go_enter Try.func24, Try.ntmps24
  go_wp2
  go_loop [5, 8] (fun _ t => ∃ k : Nat, k ≤ xs.length ∧ t = .int .i64 k ∧ Aside0 (qidx v (xs.drop k) k = qidx v xs 0)) (fun _ t => xs.length - (intOf t).toNat)
  case atStart => exact ⟨0, Nat.zero_le _, rfl, ⟨rfl⟩⟩
  case round =>
    obtain ⟨k, hk, rfl, hq⟩ := hrel
    by_cases hlt : k < xs.length
    · obtain ⟨ad, rfl, hx⟩ := Kd.at_int hC (k : Int) (Int.natCast_nonneg k) (by omega)
      simp only [Int.toNat_natCast] at hx
      have hq2 := hq.out
      rw [q_idx_step hlt] at hq2
      simp only [qidx] at hq2
      have p0 : (0 : Int) ≤ (k : Int) := Int.natCast_nonneg k
      have p1 : (k : Int) < (xs.length : Int) := by omega
      clear hq
      by_cases hv : v = rd xs (k : Int)
      · rw [if_pos hv] at hq2
        have hb : (v == rd xs (k : Int)) = true := beq_iff_eq.mpr hv
        clear hv
        replace hq2 := Aside0.mk hq2
        go_wp2
        go_ret
        exact ⟨ret_i64 hq2.out, rfl⟩
      · rw [if_neg hv] at hq2
        have hb : (v == rd xs (k : Int)) = false := beq_eq_false_iff_ne.mpr hv
        clear hv
        replace hq2 := Aside0.mk hq2
        go_wp2
        go_round
        case rel => exact ⟨k + 1, by omega, by go_num, hq2⟩
        case measure => simp [intOf]; omega
    · obtain rfl : k = xs.length := by omega
      have hq2 := hq.out
      rw [List.drop_of_length_le (Nat.le_refl _)] at hq2
      simp only [qidx] at hq2
      replace hq2 := Aside0.mk hq2
      clear hq
      go_wp2
      go_ret
      exact ⟨ret_i64 hq2.out, rfl⟩
theorem qidx_neg (v : Int) : ∀ (xs : List Int) (i : Int), 0 ≤ i → (0 ≤ qidx v xs i ↔ v ∈ xs)
  | [], i, hi => by simp [qidx]
  | x :: xs, i, hi => by
    unfold qidx
    by_cases h : v = x
    · rw [if_pos h]; subst h; simp [hi]
    · rw [if_neg h, qidx_neg v xs (i + 1) (by omega)]; simp [h]
set_option maxHeartbeats 400000 in
theorem q_Contains (A : Option Addr) (c : Nat) (xs : List Int) (v : Int) (b : Bool) (w : World) (hC : (Kd.int .i64).C w A xs.length xs) (hb : decide (v ∈ xs) = b) :
    Calls Try.prog 23 #[.slice A xs.length c, .int .i64 v] w fun e w' => e = .returned (.bool b) ∧ w = w' := by
  have hq : decide (0 ≤ qidx v xs 0) = b := by rw [← hb]; exact decide_eq_decide.mpr (qidx_neg v xs 0 (by omega))
  clear hb
  go_enter Try.func23, Try.ntmps23
  go_wp2_with (go_at_call 24; (with_reducible refine (q_Index A c xs v _ hC).mono ?_); rintro e w' ⟨rfl, rfl⟩)
  go_ret
  exact ⟨rfl, rfl⟩
theorem q_New_ok (most : Int) (w : World) (h1 : 1 ≤ most) (h2 : most ≤ 8) :
    Calls Try.prog 12 #[.int .i64 most] w fun e w' => e = .returned (.tuple #[.pointer (some ⟨w.heap.size, 0, none⟩), .int .i64 0]) ∧ w' = w.alloc (.cells #[.int .i64 most, .slice none 0 0] 53) := by
  have hu := Try.underlying53
  go_enter Try.func12, Try.ntmps12
  go_wp2
  go_ret2
  exact ⟨rfl, rfl⟩
theorem q_New_err (most : Int) (w : World) (h : most < 1 ∨ 8 < most) :
    Calls Try.prog 12 #[.int .i64 most] w fun e w' => e = .returned (.tuple #[.pointer none, .int .i64 2]) ∧ w = w' := by
  rcases h with h | h
  · go_enter Try.func12, Try.ntmps12
    go_wp2
    go_ret2
    exact ⟨rfl, rfl⟩
  · have h' : ¬ most < 1 := by omega
    go_enter Try.func12, Try.ntmps12
    go_wp2
    go_ret2
    exact ⟨rfl, rfl⟩
theorem qs_new (w : World) (most : Int) (T : Nat) : QS T w.heap.size (w.alloc (.cells #[.int .i64 most, .slice none 0 0] T)) w.heap.size most (.slice none 0 0) [] :=
  ⟨blk_new w _, Kd.R_nil _ _ _ _ _, Nat.le_refl _⟩
/-- What Put answers, and what waits behind it. -/
def putE (most : Int) (xs : List Int) (job : Int) : Int := if job < 0 then 2 else if job ∈ xs then 10 else if most ≤ (xs.length : Int) then 11 else 0
def putL (most : Int) (xs : List Int) (job : Int) : List Int := if putE most xs job = 0 then xs ++ [job] else xs
theorem q_gen {P : World → Prop} (w : World) (F : World → Prop) (hF : F w) (h : ∀ W, F W → P W) : P w := h w hF
theorem upd_trans {W W1 W2 : World} {g : Nat} {row : Option Nat} (h : Below W.heap.size W W1) (k : Upd W1 W2 g row) : Upd W W2 g row :=
  ⟨k.os.trans h.os, k.tape.trans h.tape, k.output.trans h.output, Nat.le_trans h.size k.size, fun i hi hg hr => (k.block i (Nat.lt_of_lt_of_le hi h.size) hg hr).trans (h.block i hi)⟩
theorem lies_below {W W1 : World} {v v' : Value} (h : Below W.heap.size W W1) (k : Lies W1 v v') : Lies W v v' := k.imp id (fun ⟨b, hb, hl⟩ => ⟨b, hb, Nat.le_trans h.size hl⟩)
/-- What a call on a queue comes to. -/
def QPost (T base g : Nat) (most : Int) (v : Value) (xs : List Int) (W : World) (r : Value) (ys : List Int) (e : Ending) (W' : World) : Prop :=
  ∃ v', e = .returned r ∧ QS T base W' g most v' ys ∧ Upd W W' g v.ownBlock ∧ Lies W v v'
set_option maxHeartbeats 1000000 in
theorem q_Put {base g : Nat} {most : Int} {v : Value} {xs : List Int} {W : World} (job : Int) (h : QS 53 base W g most v xs) (hl : xs.length ≤ 1000000) (hm : most ≠ 0) :
    Calls Try.prog 13 #[.pointer (some ⟨g, 0, none⟩), .int .i64 job] W (QPost 53 base g most v xs W (.int .i64 (putE most xs job)) (putL most xs job)) := by
  have hu := Try.underlying53
  obtain ⟨A, c, rfl⟩ := Kd.R_slice h.row
  obtain ⟨_, hcc, hC⟩ := Kd.R_reads' h.row
  have hne := Kd.R_ne h.row h.blk (by decide)
  have c0 := blk_cell h.blk 0
  have c1 := blk_cell h.blk 1
  have f1 := blk_frozen h.blk 1
  simp only [List.getElem?_toArray, List.getElem?_cons_zero, List.getElem?_cons_succ] at c0 c1
  have hmb : (most == 0) = false := beq_eq_false_iff_ne.mpr hm
  have hR := Aside0.mk h.row
  have hB := Aside0.mk h.blk
  have hg := Aside0.mk h.hg
  have hml := Kd.C_max hC
  unfold putL
  by_cases hj : job < 0
  · have hE : putE most xs job = 2 := if_pos hj
    rw [hE, if_neg (by decide)]
    have hjb : decide (job < 0) = true := decide_eq_true hj
    clear hj hm hE h
    go_enter Try.func13, Try.ntmps13
    go_wp2
    go_ret
    exact ⟨_, rfl, ⟨hB.out, hR.out, hg.out⟩, Upd.of_below (Below.refl _ _) _ _, .inl rfl⟩
  · have hjb : decide (job < 0) = false := decide_eq_false hj
    by_cases hi : job ∈ xs
    · have hE : putE most xs job = 10 := by unfold putE; rw [if_neg hj, if_pos hi]
      rw [hE, if_neg (by decide)]
      have hib := Aside0.mk (decide_eq_true hi)
      clear hj hm hE h hi
      go_enter Try.func13, Try.ntmps13
      go_wp2_with (go_at_call 23; (with_reducible refine (q_Contains A c xs job true _ hC hib.out).mono ?_); rintro e w' ⟨rfl, rfl⟩)
      go_ret
      exact ⟨_, rfl, ⟨hB.out, hR.out, hg.out⟩, Upd.of_below (Below.refl _ _) _ _, .inl rfl⟩
    · have hib := Aside0.mk (decide_eq_false hi)
      by_cases hf : most ≤ (xs.length : Int)
      · have hE : putE most xs job = 11 := by unfold putE; rw [if_neg hj, if_neg hi, if_pos hf]
        rw [hE, if_neg (by decide)]
        have hfb : decide (most ≤ (xs.length : Int)) = true := decide_eq_true hf
        clear hj hm hE h hi hf
        go_enter Try.func13, Try.ntmps13
        go_wp2_with (go_at_call 23; (with_reducible refine (q_Contains A c xs job false _ hC hib.out).mono ?_); rintro e w' ⟨rfl, rfl⟩)
        go_quiet (fail)
        go_wp2
        go_ret
        exact ⟨_, rfl, ⟨blk_drewN hB.out _, Kd.R_drewN hR.out _, hg.out⟩, Upd.of_below (pw_below_drewN (Below.refl _ _) _) _ _, .inl rfl⟩
      · have hE : putE most xs job = 0 := by unfold putE; rw [if_neg hj, if_neg hi, if_neg hf]
        rw [hE, if_pos rfl]
        have hfb : decide (most ≤ (xs.length : Int)) = false := decide_eq_false hf
        clear hj hm hE h hi hf
        go_enter Try.func13, Try.ntmps13
        go_wp2_with (go_at_call 23; (with_reducible refine (q_Contains A c xs job false _ hC hib.out).mono ?_); rintro e w' ⟨rfl, rfl⟩)
        go_quiet (fail)
        refine q_gen _ (fun W0 => W0.heap[g]? = some (.cells #[.int .i64 most, .slice A xs.length c] 53 (0, 0)) ∧ (Kd.int .i64).R 3 W0 base (fun _ => True) (.slice A xs.length c) xs ∧ Below W.heap.size W W0) ⟨blk_drewN hB.out _, Kd.R_drewN hR.out _, pw_below_drewN (Below.refl _ _) _⟩ ?_
        clear c0 c1 f1 hR hB
        rintro W1 ⟨hB1, hR1, hb1⟩
        have c0 := blk_cell hB1 0
        have c1 := blk_cell hB1 1
        have f1 := blk_frozen hB1 1
        simp only [List.getElem?_toArray, List.getElem?_cons_zero, List.getElem?_cons_succ] at c0 c1
        replace hB1 := Aside0.mk hB1
        replace hR1 := Aside0.mk hR1
        replace hb1 := Aside0.mk hb1
        replace hne := Aside0.mk hne
        have hbs : Aside0 (base ≤ W1.heap.size) := ⟨by have := blk_lt hB1.out; have := hg.out; omega⟩
        go_wp2_with (at_builtin; refine Kd.R_append (Kd.int .i64) (w0 := W1) base rfl (.tmp 40) (.tmp 42) 30 3 (.int .i64 0) 8 rfl Try.underlying30 q_info3 rfl (by decide) (by omega) (.slice A xs.length c) xs job [.int .i64 job] (fun _ => True) (fun _ => False) rfl rfl rfl (fun _ hk => hk.elim) (fun _ _ => trivial) hR1.out (Below.refl base W1) hbs.out (by omega) ?_; intro v1 w1 hR2 hb2 hg2 hat2; obtain ⟨A1, e0, rfl⟩ := Kd.R_slice hR2; rw [show (xs ++ [job]).length = xs.length + 1 from List.length_append] at hR2 hat2; have hk := blk_grown hB1.out hg2 hne.out; have d1 : w1.cell? ⟨g, 1, none⟩ = some (.slice A xs.length c) := (blk_cell hk 1).trans rfl; have e1 := blk_frozen hk 1; replace hk := Aside0.mk hk; replace hR2 := Aside0.mk hR2; replace hg2 := Aside0.mk hg2; replace hat2 := Aside0.mk hat2; clear hb2)
        go_ret
        exact ⟨_, rfl, ⟨blk_put hk.out 1 _ rfl, Kd.R_set hR2.out hk.out (by decide) 1 _, hg.out⟩, upd_trans hb1.out (Upd.set (Upd.of_grown hg2.out g) 1 _), lies_below hb1.out hat2.out⟩
/-- Len. -/
theorem q_Len {base g : Nat} {most : Int} {v : Value} {xs : List Int} {W : World} (h : QS 53 base W g most v xs) :
    Calls Try.prog 14 #[.pointer (some ⟨g, 0, none⟩)] W fun e W' => e = .returned (.int .i64 xs.length) ∧ W = W' := by
  have hu := Try.underlying53
  obtain ⟨A, c, rfl⟩ := Kd.R_slice h.row
  have c1 := blk_cell h.blk 1
  simp only [List.getElem?_toArray, List.getElem?_cons_zero, List.getElem?_cons_succ] at c1
  clear h
  go_enter Try.func14, Try.ntmps14
  go_wp2
  go_ret
  exact ⟨rfl, rfl⟩
def inquestlaw19_lives.f : Option (Bool) := some true
set_option maxHeartbeats 1000000 in
theorem inquestlaw19_lives.calls (r : Bool) (w : World) (h : inquestlaw19_lives.f = some r) : Calls Try.prog 10 #[] w fun e w' => e = .returned (.bool r) ∧ Below w.heap.size w w' := by
  obtain rfl : true = r := Option.some.inj h
  clear h
  have hq := Aside0.mk (qs_new w 2 53)
  have hb := Aside0.mk (below_alloc (Below.refl w.heap.size w) (.cells #[.int .i64 2, .slice none 0 0] 53))
  go_enter Try.func10, Try.ntmps10
  go_wp2_with (first | (go_at_call 12; (with_reducible refine (q_New_ok 2 _ (by decide) (by decide)).mono ?_); rintro e w' ⟨rfl, rfl⟩) | (go_at_call 13; (with_reducible refine (q_Put 7 hq.out (by decide) (by decide)).mono ?_); rintro e w' ⟨v', rfl, hq2, hu2, hl2⟩; replace hq2 := Aside0.mk hq2; replace hb := Aside0.mk (hu2.below hb.out (by simp) (Nat.le_refl _) (fun _ e => by cases e)); clear hu2 hl2) | (go_at_call 14; (with_reducible refine (q_Len hq2.out).mono ?_); rintro e w' ⟨rfl, rfl⟩))
  go_ret
  exact ⟨rfl, hb.out⟩

/-! ### inquestlaw19_QueueTurns: function 3 -/
theorem q_info4 : (Try.prog.info? 4).map (fun i => (i.zero, i.size, i.bytes)) = some (some (.bool false), 1, 1) := by kernel_rfl
def inquestlaw19_QueueTurns.f (k : Nat) (l0 : List Bool) (a1 : Int) : Option Bool :=
  (queue_Turn.f k (l0.take 100) a1).bind fun p => (inquestref19_Turn.f k (l0.take 100) a1).bind fun q => if p = q then some true else none
theorem qt_call (k : Nat) (A : Option Addr) (c n : Nat) (l : List Bool) (a r1 : Int) (r2 : Bool) (w : World) (hn : n = l.length) (hr : Kd.bool.C w A n l) (hc : n ≤ c) (h : queue_Turn.f k l a = some (r1, r2)) :
    Calls Try.prog 8 #[.slice A n c, .int .i64 a] w fun e w' => e = .returned (.tuple #[.int .i64 r1, .bool r2]) ∧ Drawn0 w w' := by subst hn; exact queue_Turn.calls k A c l a r1 r2 w hr hc h
theorem rt_call (k : Nat) (A : Option Addr) (c n : Nat) (l : List Bool) (a r1 : Int) (r2 : Bool) (w : World) (hn : n = l.length) (hr : Kd.bool.C w A n l) (hc : n ≤ c) (h : inquestref19_Turn.f k l a = some (r1, r2)) :
    Calls Try.prog 9 #[.slice A n c, .int .i64 a] w fun e w' => e = .returned (.tuple #[.int .i64 r1, .bool r2]) ∧ Drawn0 w w' := by subst hn; exact inquestref19_Turn.calls k A c l a r1 r2 w hr hc h
set_option maxHeartbeats 2000000 in
set_option maxRecDepth 100000 in
theorem inquestlaw19_QueueTurns.calls (k : Nat) (A0 : Option Addr) (c0 : Nat) (l0 : List Bool) (a1 : Int) (r : Bool) (w : World) (hr0 : Kd.bool.C w A0 l0.length l0) (hc0 : l0.length ≤ c0) (h : inquestlaw19_QueueTurns.f k l0 a1 = some r) :
    Calls Try.prog 3 #[.slice A0 l0.length c0, .int .i64 a1] w fun e w' => e = .returned (.bool r) ∧ Below w.heap.size w w' := by
  unfold inquestlaw19_QueueTurns.f at h
  obtain ⟨⟨r1, r2⟩, hq, h⟩ := Option.bind_eq_some_iff.1 h
  obtain ⟨⟨s1, s2⟩, hf, h⟩ := Option.bind_eq_some_iff.1 h
  have e : (r1, r2) = (s1, s2) := by
    by_cases e : (r1, r2) = (s1, s2)
    · exact e
    · rw [if_neg e] at h; cases h
  rw [if_pos e] at h
  obtain rfl : true = r := Option.some.inj h
  injection e with e1 e2
  subst e1 e2
  clear h
  obtain ⟨n, hn⟩ : ∃ n, n = (l0.take 100).length := ⟨_, rfl⟩
  have hC : Kd.bool.C w A0 n (l0.take 100) := by
    rw [hn]
    by_cases hl : 100 ≤ l0.length
    · exact Kd.C_take hr0 hl
    · rw [List.take_of_length_le (by omega)]; exact hr0
  have hnc : n ≤ c0 := by rw [hn]; have := List.length_take_le 100 l0; simp; omega
  have hn1 : n ≤ 100 := by rw [hn]; simp; omega
  have hcase : (l0.length > 100 ∧ n = 100) ∨ (l0.length ≤ 100 ∧ n = l0.length) := by rw [hn]; simp; omega
  replace hn := Aside0.mk hn
  generalize l0.take 100 = l at *
  have hC' := Aside0.mk hC
  have hq' := Aside0.mk hq
  have hf' := Aside0.mk hf
  clear hC hq hf
  rcases hcase with ⟨hl, rfl⟩ | ⟨hl, rfl⟩
  all_goals
    go_enter Try.func3, Try.ntmps3
    go_wp2_with (first | (at_builtin; refine Kd.R_append_row Value.bool false (h1 := fun _ => rfl) (w0 := w) w.heap.size rfl (.tmp 16) (.tmp 17) 22 4 (.bool false) 1 rfl Try.underlying22 q_info4 rfl (by decide) (.slice none 0 0) [] l A0 _ c0 (fun _ => True) rfl rfl (fun _ _ => trivial) (Kd.R_nil _ _ _ _ _) hC'.out (Below.refl _ w) (Nat.le_refl _) (by rw [List.length_nil]; omega) ?_; intro v1 w1 hR hB hg hat; rw [List.nil_append] at hR; obtain ⟨A1, e0, rfl⟩ := Kd.R_slice hR; replace hR : Aside0 (Kd.bool.R 4 w1 w.heap.size (fun _ => True) (.slice A1 l.length e0) l) := ⟨hR⟩; replace hB := Aside0.mk hB; clear hg hat) | (go_at_call 8; (with_reducible refine (qt_call k A1 e0 l.length l a1 r1 r2 _ rfl (Kd.R_reads' hR.out).2.2 (Kd.R_reads' hR.out).2.1 hq'.out).mono ?_); rintro e w8 ⟨rfl, ⟨n8, rfl⟩⟩) | (go_at_call 9; (with_reducible refine (rt_call k A0 c0 _ l a1 r1 r2 _ hn.out (Kd.C_drewN (Kd.C_below hC'.out hB.out) _) hnc hf'.out).mono ?_); rintro e w9 ⟨rfl, ⟨n9, rfl⟩⟩))
    go_loopg [10] l.length (fun kk v10 W => ∃ (i m : Nat), v10 = .int .i64 i ∧ Aside0 (kk + i = l.length) ∧ W = w1.drewN m)
    case atStart => exact ⟨0, _, rfl, ⟨rfl⟩, rfl⟩
    case round =>
      obtain ⟨i, m, rfl, hk, rfl⟩ := hrel
      have hne := hn.out
      by_cases hil : i < l.length
      · obtain ⟨j, rfl⟩ : ∃ j, gk = j + 1 := ⟨gk - 1, by have := hk.out; omega⟩
        have p0 : (0 : Int) ≤ (i : Int) := Int.natCast_nonneg i
        have p1 : (i : Int) < (l.length : Int) := by omega
        obtain ⟨ad, ea, hx⟩ := Kd.at_bool (Kd.R_reads' hR.out).2.2 (i : Int) p0 p1
        obtain ⟨ad2, eb, hy⟩ := Kd.at_bool (Kd.C_below hC'.out hB.out) (i : Int) p0 (by omega)
        subst ea eb
        have hbb : (rdOf false l (i : Int) != rdOf false l (i : Int)) = false := by simp
        rw [← hne] at p1
        replace hne := Aside0.mk hne
        simp only [Int.toNat_natCast] at hx hy
        go_wp2
        go_quiet (fail)
        go_wp2
        go_roundg j
        case measure => omega
        case rel => exact ⟨i + 1, _, by go_num, ⟨by have := hk.out; omega⟩, rfl⟩
      · obtain rfl : i = l.length := by have := hk.out; omega
        go_wp2_with (go_at_call 10; (with_reducible refine (inquestlaw19_lives.calls true _ rfl).mono ?_); rintro e w9 ⟨rfl, hb9⟩)
        go_ret
        exact ⟨rfl, (pw_below_drewN hB.out _).trans (hb9.mono hB.out.size)⟩

/-- THE ONE PURE STATEMENT of inquestlaw19_QueueTurns: yours. -/
def inquestlaw19_QueueTurns.Pure : Prop := ∀ (l0 : List Bool) (a1 : Int), l0.length ≤ maxLen → (Lit.int .i64 a1).wf = true → ∃ k, inquestlaw19_QueueTurns.f k l0 a1 = some true
theorem inquestlaw19_QueueTurns.walk (P : inquestlaw19_QueueTurns.Pure) (a0 : Option Addr) (cap0 : Nat) (l0 : List Bool) (a1 : Int) (w : World) (hr0 : Kd.C Kd.bool w a0 l0.length l0) (hc0 : l0.length ≤ cap0) (hm0 : l0.length ≤ maxLen) (w1 : (Lit.int .i64 a1).wf = true) :
    Calls Try.prog 3 #[.slice a0 l0.length cap0, .int .i64 a1] w fun e w' => e = .returned (.bool true) ∧ Below w.heap.size w w' := by
  obtain ⟨k, h⟩ := P l0 a1 hm0 w1
  refine (inquestlaw19_QueueTurns.calls k _ _ l0 a1 true w hr0 hc0 h).mono ?_
  rintro e w' ⟨rfl, hd⟩
  exact ⟨rfl, hd⟩

end Go.Proofs.Ytkhacnckajamhaa.PQueueTurns
