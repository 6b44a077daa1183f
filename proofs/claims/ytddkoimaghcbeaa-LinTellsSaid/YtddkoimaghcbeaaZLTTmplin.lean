/- A part of what the law LinTells stands on, only as far as it is needed (the words and walks were printed or written in this seat; this text was cut by a program of this session, wip/bin/trim.py). No condition beyond what each theorem says. -/
import Derived.Test.YtddkoimaghcbeaaZLTPVmStepsx0
import Derived.Test.YtddkoimaghcbeaaZLTPVmStepsx2
import Derived.Test.YtddkoimaghcbeaaZLTPVmStepsx3
import Derived.Test.YtddkoimaghcbeaaZLTPVmStepsx4
import Derived.Test.YtddkoimaghcbeaaZLTPVmStepsx5
import Derived.Test.YtddkoimaghcbeaaZLTPVmStepsx6
import Derived.Test.YtddkoimaghcbeaaZLTTmplim
import Derived.Test.YtddkoimaghcbeaaZLTTmpory
section
namespace Go.Proofs.Ytddkoimaghcbeaa.PVmSteps
open Go.RowKit Go.Proofs.YtddkoimaghcbeaaW.PrintWords Go.Proofs.YtddkoimaghcbeaaW.PrintLast Go.Proofs.YtddkoimaghcbeaaW.PrintMore
set_option linter.unusedVariables false
set_option linter.unusedSimpArgs false
section
variable {w0 W : World} {q : LinQ} {g gm bm : Nat} {vM vO vA vL vR : Value} {st : LinS}
theorem lin_ends (h : LinM w0 W q g gm bm vM vO vA vL vR st) (k : Int) :
    Calls Try.prog 69 #[.pointer (some ⟨g, 0, none⟩), .int .i64 k] W fun e w' => e = .returned (.tuple #[]) ∧ LinM w0 w' q g gm bm vM vO vA vL vR { st with over := true, kind := k } := by
  obtain ⟨c0, c1, c2, c3, c4, c5, c6, c7, c8, c9, c10, c11⟩ := h.cells W (Below.refl _ _)
  have z10 := h.free 10
  have z11 := h.free 11
  have hN := Aside0.mk ((h.setOver true).setKind k)
  clear h
  go_enter Try.func69, Try.ntmps69
  go_wp2
  go_end0
  exact ⟨rfl, hN.out⟩
theorem lin_Over (h : LinT w0 W q g st) :
    Calls Try.prog 44 #[.pointer (some ⟨g, 0, none⟩)] W fun e w' => e = .returned (.bool st.over) ∧ Below W.heap.size W w' := by
  obtain ⟨gm, bm, vM, vO, vA, vL, vR, h⟩ := h
  obtain ⟨c0, c1, c2, c3, c4, c5, c6, c7, c8, c9, c10, c11⟩ := h.cells W (Below.refl _ _)
  clear h
  go_enter Try.func44, Try.ntmps44
  go_wp2
  go_ret
  exact ⟨rfl, Below.refl _ _⟩
theorem lin_Tries (h : LinT w0 W q g st) :
    Calls Try.prog 47 #[.pointer (some ⟨g, 0, none⟩)] W fun e w' => e = .returned (.int .i64 (st.tries : Int)) ∧ Below W.heap.size W w' := by
  obtain ⟨gm, bm, vM, vO, vA, vL, vR, h⟩ := h
  obtain ⟨c0, c1, c2, c3, c4, c5, c6, c7, c8, c9, c10, c11⟩ := h.cells W (Below.refl _ _)
  clear h
  go_enter Try.func47, Try.ntmps47
  go_wp2
  go_ret
  exact ⟨rfl, Below.refl _ _⟩
end
theorem u_wrap (z : Nat) (h : z < 2 ^ 64) : IntKind.u64.wrap (z : Int) = (z : Int) := by
  have e : IntKind.u64.wrap (z : Int) = (z : Int) % 18446744073709551616 := by simp [IntKind.wrap, IntKind.bits, IntKind.signed]
  rw [e]; omega
theorem u_in (n : Int) (h0 : 0 ≤ n) (h : n < 2 ^ 64) : IntKind.u64.wrap n = n := by
  obtain ⟨z, rfl⟩ := Int.eq_ofNat_of_zero_le h0
  exact u_wrap z (by omega)
theorem u_or (a b : Nat) (ha : a < 2 ^ 64) (hb : b < 2 ^ 64) : bits .or .u64 (a : Int) (b : Int) = ((a ||| b : Nat) : Int) := (bits_nat .u64 64 (by decide) (fun n h0 h1 => u_in n h0 h1) a b ha hb).2
theorem u_and (a b : Nat) (ha : a < 2 ^ 64) (hb : b < 2 ^ 64) : bits .and .u64 (a : Int) (b : Int) = ((a &&& b : Nat) : Int) := (bits_nat .u64 64 (by decide) (fun n h0 h1 => u_in n h0 h1) a b ha hb).1
theorem u_lack (a s : Nat) (ha : a < 2 ^ 64) (hs : s < 2 ^ 64) : bits .andNot .u64 (a : Int) (s : Int) = ((lackZ a s : Nat) : Int) := by
  have e : bits .andNot .u64 (a : Int) (s : Int) = IntKind.u64.wrap (((BitVec.ofNat 64 a &&& ~~~ BitVec.ofNat 64 s).toNat : Nat) : Int) := by
    unfold bits
    simp only [BitVec.ofInt_natCast]
    rfl
  have e2 : (BitVec.ofNat 64 a &&& ~~~ BitVec.ofNat 64 s).toNat = lackZ a s := by
    refine Nat.eq_of_testBit_eq (fun j => ?_)
    rw [lack_bit, BitVec.testBit_toNat]
    by_cases c : j < 64
    · rw [BitVec.getLsbD_and, BitVec.getLsbD_not, BitVec.getLsbD_ofNat, BitVec.getLsbD_ofNat]
      simp [c]
    · have : a.testBit j = false := Nat.testBit_lt_two_pow (Nat.lt_of_lt_of_le ha (Nat.pow_le_pow_right (by decide) (by omega)))
      simp [this, c]
  rw [e, e2, u_wrap _ (lack_le a s ha)]
theorem u_shr (s i : Nat) : (s : Int) / 2 ^ i = ((s >>> i : Nat) : Int) := by
  rw [Nat.shiftRight_eq_div_pow]; simp
theorem u_bit (s i : Nat) (hs : s < 2 ^ 64) : bits .and .u64 ((s : Int) / 2 ^ i) 1 = if s.testBit i = true then 1 else 0 := by
  have h := u_and (s >>> i) 1 (Nat.lt_of_le_of_lt (Nat.shiftRight_le _ _) hs) (by decide)
  rw [u_shr]
  rw [show ((1 : Nat) : Int) = 1 from rfl] at h
  rw [h, Nat.and_one_is_mod, Nat.testBit, Nat.and_comm, Nat.and_one_is_mod]
  rcases Nat.mod_two_eq_zero_or_one (s >>> i) with e | e <;> simp [e]
theorem u_pow (i : Nat) (hi : i < 64) : IntKind.u64.wrap (2 ^ i) = ((2 ^ i : Nat) : Int) := by
  have h := u_wrap (2 ^ i) (Nat.pow_lt_pow_right (by decide) hi)
  simpa using h
end Go.Proofs.Ytddkoimaghcbeaa.PVmSteps
end
section
namespace Go.Proofs.Ytddkoimaghcbeaa.PVmSteps
open Go.RowKit Go.Proofs.YtddkoimaghcbeaaW.PrintWords Go.Proofs.YtddkoimaghcbeaaW.PrintLast Go.Proofs.YtddkoimaghcbeaaW.PrintMore
set_option linter.unusedVariables false
set_option linter.unusedSimpArgs false
theorem seg_set_far (l : List Value) (k j sz : Nat) (u : Value) (h : k < j * sz ∨ j * sz + sz ≤ k) : ((l.set k u).drop (j * sz)).take sz = (l.drop (j * sz)).take sz := by
  refine List.ext_getElem? (fun i => ?_)
  by_cases hi : i < sz
  · simp only [List.getElem?_take, hi, if_true, List.getElem?_drop, List.getElem?_set]
    rw [if_neg (by omega)]
  · simp [List.getElem?_take, hi]
theorem seg_set_here (l : List Value) (j t sz : Nat) (u : Value) (h : t < sz) (hl : j * sz + t < l.length) : ((l.set (j * sz + t) u).drop (j * sz)).take sz = ((l.drop (j * sz)).take sz).set t u := by
  refine List.ext_getElem? (fun i => ?_)
  by_cases hi : i < sz
  · simp only [List.getElem?_take, hi, if_true, List.getElem?_drop, List.getElem?_set]
    by_cases e : t = i
    · subst e
      rw [if_pos rfl, if_pos rfl]
      simp [hl, h]; omega
    · rw [if_neg (by omega), if_neg e]
  · simp [List.getElem?_take, hi, List.getElem?_set]
    intro e; omega
theorem kFr_put {e : Nat} {W : World} {base b c n : Nat} {ok : Nat → Prop} {xs : List Fr} {f : Fr} (h : Kd.R kFr e W base ok (.slice (some ⟨b, 0, none⟩) n c) (xs ++ [f])) (j : Nat) :
    Kd.R kFr e (W.setCell ⟨b, xs.length * 6 + 5, none⟩ (.int .i64 (j : Int))) base ok (.slice (some ⟨b, 0, none⟩) n c) (xs ++ [(f.1, j)]) := by
  obtain ⟨h0, inner, ho, hr⟩ := h
  obtain ⟨ho1, ho2⟩ := ho
  rcases ho2 with ⟨e1, _⟩ | ⟨g, cap, cur, e1, hb, hh, hnc, hcm, hcs, htk⟩
  · cases e1
  cases e1
  have hlen : (xs ++ [f]).length = xs.length + 1 := by simp
  have hlen' : (xs ++ [(f.1, j)]).length = xs.length + 1 := by simp
  have hsz : kFr.sz = 6 := rfl
  have hil : inner.length = (xs.length + 1) * 6 := by rw [hr.1, hlen]; rfl
  refine ⟨h0, inner.set (xs.length * 6 + 5) (.int .i64 (j : Int)), ⟨by rw [hlen', hsz, List.length_set, hil], .inr ⟨b, c, cur.setIfInBounds (xs.length * 6 + 5) (.int .i64 (j : Int)), by rw [hlen', hlen], hb, blk_set hh _ _, by rw [hlen']; rw [hlen] at hnc; exact hnc, hcm, by simpa using hcs, ?_⟩⟩, by rw [hlen', hsz, List.length_set, hil], fun i p hp => ?_⟩
  · rw [hlen', Array.toList_setIfInBounds, List.take_set, ← htk, hlen]
  · show ((inner.set _ _).drop (i * 6)).take 6 = frC p
    rcases Nat.lt_or_ge i xs.length with hi | hi
    · rw [seg_set_far _ _ _ _ _ (.inr (by omega))]
      rw [List.getElem?_append_left hi] at hp
      exact hr.2 i p (by rw [List.getElem?_append_left hi]; exact hp)
    · obtain rfl : i = xs.length := by
        have := (List.getElem?_eq_some_iff.1 hp).1
        rw [hlen'] at this; omega
      have e2 : p = (f.1, j) := by simpa using hp.symm
      subst e2
      have hf : (inner.drop (xs.length * 6)).take 6 = frC f := hr.2 xs.length f (by simp)
      rw [seg_set_here _ _ _ _ _ (by decide) (by omega), hf]
      rfl
section
variable {w0 W W' : World} {q : LinQ} {g gm bm : Nat} {vM vO vA vL vR : Value} {st : LinS}
/-- The top frame's next place is written. -/
theorem LinM.next (h : LinM w0 W q g gm bm vM vO vA vL vR st) {f : Fr} {r : List Fr} (hl : st.l = f :: r) {b c : Nat} (hv : vL = .slice (some ⟨b, 0, none⟩) (r.length + 1) c) (j : Nat) :
    LinM w0 (W.setCell ⟨b, r.length * 6 + 5, none⟩ (.int .i64 (j : Int))) q g gm bm vM vO vA vL vR { st with l := (f.1, j) :: r } := by
  have hL := h.hL
  rw [hl, List.reverse_cons] at hL
  subst hv
  have hb : w0.heap.size ≤ b := by
    obtain ⟨inner, ho⟩ := Kd.R_own hL
    exact own_base ho b rfl
  obtain ⟨cells, hc⟩ := Kd.R_row hL b rfl
  have hput := kFr_put hL j
  rw [List.length_reverse] at hput
  have hbm : bm ≠ b := by
    rintro rfl
    obtain ⟨es, c2, h1, _⟩ := h.hS.out
    rw [hc] at h1
    cases h1
  have hgb : g ≠ b := blk_ne h.hk hc (by decide)
  exact h.turn (below_set h.hB hb) ⟨.set hc (by decide) _ _, .set hc (by decide) _ _, .set hc (by decide) _ _, .set hc (by decide) _ _⟩ ((Below.heap_setCell _ _ _ _ hgb).trans h.hk) (h.hS.same (Below.heap_setCell _ _ _ _ hbm)) (by simpa using hput) (R1_same rfl h.hR (.set hc (by decide) _ _))
/-- The cells of the top frame. -/
theorem LinM.topc {b c n : Nat} (h : LinM w0 W q g gm bm vM vO vA (.slice (some ⟨b, 0, none⟩) n c) vR st) {f : Fr} {r : List Fr} (hl : st.l = f :: r) (W_ : World) (hb : Below W.heap.size W W_) :
    n = r.length + 1 ∧ w0.heap.size ≤ b ∧ n ≤ c ∧ W_.cell? ⟨b, r.length * 6, none⟩ = some (.int .u64 (f.1.1 : Int)) ∧ W_.cell? ⟨b, r.length * 6 + 1, none⟩ = some (.int .i64 (rdOf 0 f.1.2 0)) ∧ W_.cell? ⟨b, r.length * 6 + 2, none⟩ = some (.int .i64 (rdOf 0 f.1.2 1)) ∧ W_.cell? ⟨b, r.length * 6 + 3, none⟩ = some (.int .i64 (rdOf 0 f.1.2 2)) ∧ W_.cell? ⟨b, r.length * 6 + 4, none⟩ = some (.int .i64 (rdOf 0 f.1.2 3)) ∧ W_.cell? ⟨b, r.length * 6 + 5, none⟩ = some (.int .i64 (f.2 : Int)) ∧ (∀ j, W_.frozen? ⟨b, j, none⟩ = false) := by
  obtain ⟨b', c', e, h1, h2, ⟨cells, h3⟩, h4⟩ := h.top hl
  cases e
  have key : ∀ j u, j < 6 → (frC f)[j]? = some u → W_.cell? ⟨b, r.length * 6 + j, none⟩ = some u := fun j u hj hu => (hb.cell (World.block_lt_of_cell? W _ ((h4 j hj).trans hu))).trans ((h4 j hj).trans hu)
  exact ⟨rfl, h1, h2, key 0 _ (by decide) rfl, key 1 _ (by decide) rfl, key 2 _ (by decide) rfl, key 3 _ (by decide) rfl, key 4 _ (by decide) rfl, key 5 _ (by decide) rfl, fun j => blk_frozen (blk_below h3 hb) j⟩
end
end Go.Proofs.Ytddkoimaghcbeaa.PVmSteps
end
section
namespace Go.Proofs.Ytddkoimaghcbeaa.PVmSteps
open Go.RowKit Go.Proofs.YtddkoimaghcbeaaW.PrintWords Go.Proofs.YtddkoimaghcbeaaW.PrintLast Go.Proofs.YtddkoimaghcbeaaW.PrintMore
set_option linter.unusedVariables false
set_option linter.unusedSimpArgs false
def opO (p : S65) : Obj := .cells #[.int .i64 p.f0, .int .i64 p.f1, .int .i64 p.f2, .bool p.f3, .int .i64 p.f4, .int .i64 p.f5, .int .i64 p.f6] 65
end Go.Proofs.Ytddkoimaghcbeaa.PVmSteps
end
section
namespace Go.Proofs.Ytddkoimaghcbeaa.PVmSteps
open Go.RowKit Go.Proofs.YtddkoimaghcbeaaW.PrintWords Go.Proofs.YtddkoimaghcbeaaW.PrintLast Go.Proofs.YtddkoimaghcbeaaW.PrintMore
set_option linter.unusedVariables false
set_option linter.unusedSimpArgs false
variable {P : Program} {B : List Nat} {C : RbC} {i : Nat} {o : Oper} {A : (Nat → Value) → Act}
/-- A read that may look at what is done so far. -/
theorem rb_read {v : Value} (hE : rbOff C i) (h : ∀ b us w, b i = false → (∀ j, j < i → (B.getD i 0).testBit j = true → b j = true) → C b us w → (execOp (A us).eval o).run P w = .ok (.value v) w) : rbOp P B C i o A (some v) := fun b us w hb hon hC => by
  rw [h b us w hb hon hC]; exact ⟨rfl, hE b us w hC⟩
theorem up_on {b : Nat → Bool} {k j : Nat} (h : b j = true) : up b k j = true := by
  by_cases c : j = k
  · subst c; simp [up]
  · rw [up_off c]; exact h
end Go.Proofs.Ytddkoimaghcbeaa.PVmSteps
end
section
namespace Go.Proofs.Ytddkoimaghcbeaa.PVmSteps
open Go.RowKit Go.Proofs.YtddkoimaghcbeaaW.PrintWords Go.Proofs.YtddkoimaghcbeaaW.PrintLast Go.Proofs.YtddkoimaghcbeaaW.PrintMore
set_option linter.unusedVariables false
set_option linter.unusedSimpArgs false
/-- A drawn statement with one thing written at its end (operation k), and operations that read ahead of it (D). -/
structure StC (W1 W2 : World) (k : Nat) (D : List Nat) (b : Nat → Bool) (us : Nat → Value) (W : World) : Prop where
  w : W = if b k = true then W2 else W1
  d : b k = true → ∀ j ∈ D, b j = true
section
variable {W1 W2 W : World} {k : Nat} {D : List Nat} {b : Nat → Bool} {us : Nat → Value}
theorem StC.start (W1 W2 : World) (k : Nat) (D : List Nat) (us : Nat → Value) : StC W1 W2 k D (fun _ => false) us W1 := ⟨by simp, fun h => by simp at h⟩
theorem StC.off {j : Nat} (h : StC W1 W2 k D b us W) (hj : k ≠ j) : StC W1 W2 k D (up b j) us W := ⟨by rw [up_off hj]; exact h.w, fun q i hi => up_on (h.d (by rw [up_off hj] at q; exact q) i hi)⟩
theorem StC.read {j : Nat} (h : StC W1 W2 k D b us W) (hj : j ∈ D) (hb : b j = false) : W = W1 := by
  have : ¬ b k = true := fun q => by rw [h.d q j hj] at hb; cases hb
  rw [h.w, if_neg this]
theorem StC.at (h : StC W1 W2 k D b us W) (hb : b k = false) : W = W1 := by rw [h.w, if_neg (by simp [hb])]
theorem StC.put (h : StC W1 W2 k D b us W) (hD : ∀ j ∈ D, b j = true) : StC W1 W2 k D (up b k) us W2 := ⟨by simp [up], fun _ j hj => up_on (hD j hj)⟩
theorem StC.done (h : StC W1 W2 k D b us W) (hb : b k = true) : W = W2 := by rw [h.w, if_pos hb]
end
end Go.Proofs.Ytddkoimaghcbeaa.PVmSteps
end
