/- A part of what the law OrderSwaps stands on, only as far as it is needed (the words and walks were printed or written in this seat; this text was cut by a program of this session, wip/bin/trim.py). No condition beyond what each theorem says. -/
import Derived.Test.YtddkoimaghcbeaaZOSPVmStepsx0
import Derived.Test.YtddkoimaghcbeaaZOSPVmStepsx2
import Derived.Test.YtddkoimaghcbeaaZOSPVmStepsx3
import Derived.Test.YtddkoimaghcbeaaZOSPVmStepsx4
import Derived.Test.YtddkoimaghcbeaaZOSPVmStepsx5
import Derived.Test.YtddkoimaghcbeaaZOSPVmStepsx6
import Derived.Test.YtddkoimaghcbeaaZOSTmpory
section
namespace Go.Proofs.Ytddkoimaghcbeaa.PVmSteps
open Go.RowKit Go.Proofs.YtddkoimaghcbeaaW.PrintWords Go.Proofs.YtddkoimaghcbeaaW.PrintLast Go.Proofs.YtddkoimaghcbeaaW.PrintMore
set_option linter.unusedVariables false
set_option linter.unusedSimpArgs false
theorem doneZ_of (s : List Bool) (ops : List S65) : ∀ (d i : Nat), ops.length - i = d → (∀ j : Nat, i ≤ j → j < ops.length → (rd_T65 ops j).f3 = true → rdOf false s (j : Int) = true) → doneZ s (ops.drop i) i = true
  | 0, i, hd, _ => by rw [List.drop_of_length_le (by omega)]; rfl
  | d + 1, i, hd, h => by
    rw [op_drop ops i (by omega), doneZ, if_neg (by rintro ⟨a, b⟩; rw [h i (Nat.le_refl _) (by omega) a] at b; cases b)]
    exact doneZ_of s ops d (i + 1) (by omega) (fun j h1 h2 h3 => h j (by omega) h2 h3)
theorem placeZ_of (ops : List S65) : ∀ (o : List Int) (s : List Bool), s.length = ops.length → o.Pairwise (· ≠ ·) → (∀ i ∈ o, 0 ≤ i ∧ i < (ops.length : Int) ∧ rdOf false s i = false) → (∀ j : Nat, j < ops.length → (rd_T65 ops j).f3 = true → rdOf false s (j : Int) = true ∨ (j : Int) ∈ o) → placeZ ops o s = 0
  | [], s, hs, _, _, h => by
    have e := doneZ_of s ops _ 0 rfl (fun j _ h2 h3 => (h j h2 h3).elim id (fun q => by simp at q))
    rw [List.drop_zero] at e
    rw [placeZ, if_pos e]
  | x :: o, s, hs, hp, hx, h => by
    have hx0 := hx x (by simp)
    rw [placeZ, if_pos hx0]
    obtain ⟨p1, p2⟩ := List.pairwise_cons.mp hp
    refine placeZ_of ops o _ (by simpa using hs) p2 (fun i hi => ?_) (fun j hj hf => ?_)
    · have hi0 := hx i (by simp [hi])
      refine ⟨hi0.1, hi0.2.1, ?_⟩
      have e : ((i.toNat : Nat) : Int) = i := by omega
      rw [← e, rdB_set s _ _ (by omega), if_neg (fun q => p1 i hi (by omega)), e]
      exact hi0.2.2
    · rw [rdB_set s _ _ (by omega)]
      by_cases q : j = x.toNat
      · exact .inl (by rw [if_pos q])
      · rw [if_neg q]
        rcases h j hj hf with e | e
        · exact .inl e
        · rcases List.mem_cons.mp e with e | e
          · exact absurd (by omega) q
          · exact .inr e
/-- Two that stand next to one another change places. -/
def swapZ (o : List Int) (a : Nat) : List Int := (o.set a (rd o ((a + 1 : Nat) : Int))).set (a + 1) (rd o (a : Int))
def sw (a j : Nat) : Nat := if j = a then a + 1 else if j = a + 1 then a else j
theorem rd_swap (o : List Int) (a j : Nat) (h : a + 1 < o.length) : rd (swapZ o a) (j : Int) = rd o ((sw a j : Nat) : Int) := by
  unfold swapZ sw
  rw [rd_set _ _ _ _ (by simpa using h), rd_set _ _ _ _ (by omega)]
  by_cases c : j = a + 1
  · rw [if_pos c, if_neg (by omega), if_pos c]
  · rw [if_neg c]
    by_cases d : j = a
    · rw [if_pos d, if_pos d]
    · rw [if_neg d, if_neg d, if_neg c]
theorem swapZ_len (o : List Int) (a : Nat) : (swapZ o a).length = o.length := by simp [swapZ]
theorem sw_lt {a j n : Nat} (h : a + 1 < n) (hj : j < n) : sw a j < n := by unfold sw; split <;> (try split) <;> omega
theorem sw_sw (a j : Nat) : sw a (sw a j) = j := by unfold sw; (repeat' split) <;> omega
theorem sw_ord {a i k : Nat} (h : i < k) : sw a i < sw a k ∨ (i = a ∧ k = a + 1) := by unfold sw; (repeat' split) <;> omega
theorem ordZ_vals (L : List S36) (ops : List S65) (f : Int) : ∀ (o cs : List Int), ordZ L ops f o cs = 0 ∨ ordZ L ops f o cs = 18 ∨ ordZ L ops f o cs = 19
  | [], _ => .inl rfl
  | i :: o, cs => by
    rw [ordZ]
    split
    · exact .inl rfl
    · split
      · split
        · exact .inr (.inr rfl)
        · exact ordZ_vals L ops f o _
      · exact .inr (.inl rfl)
theorem ordC_swap {L : List S36} {f : Int} {ops : List S65} {o : List Int} (h : ordC L f ops o = 0) (a : Nat) (ha : a + 1 < o.length) :
    (befZ (rd_T65 ops (rd o (a : Int))) (rd_T65 ops (rd o ((a + 1 : Nat) : Int))) = true → ordC L f ops (swapZ o a) = 17) ∧
    (befZ (rd_T65 ops (rd o (a : Int))) (rd_T65 ops (rd o ((a + 1 : Nat) : Int))) = false → ordC L f ops (swapZ o a) = 0 ∨ ordC L f ops (swapZ o a) = 18 ∨ ordC L f ops (swapZ o a) = 19) := by
  obtain ⟨hn, hF⟩ := ordF_of h
  have hlen := swapZ_len o a
  have hp : placeZ ops (swapZ o a) (List.replicate ops.length false) = 0 := by
    refine placeZ_of ops (swapZ o a) _ (by simp) ?_ (fun i hi => ?_) (fun j hj hf => ?_)
    · rw [List.pairwise_iff_getElem]
      intro i k hi hk hik
      rw [← rd_get _ i hi, ← rd_get _ k hk, rd_swap o a i ha, rd_swap o a k ha]
      rcases sw_ord (a := a) hik with q | ⟨rfl, rfl⟩
      · exact hF.nd _ _ q (sw_lt ha (by omega))
      · have := hF.nd i (i + 1) (by omega) ha
        have e1 : sw i i = i + 1 := by simp [sw]
        have e2 : sw i (i + 1) = i := by simp [sw]
        rw [e1, e2]; exact fun e => this e.symm
    · obtain ⟨k, hk, e⟩ := List.getElem_of_mem hi
      have := hF.ix (sw a k) (sw_lt ha (by omega))
      rw [← e, ← rd_get _ k hk, rd_swap o a k ha]
      refine ⟨this.1, this.2, ?_⟩
      simp [rdOf, List.getElem?_replicate]; split <;> rfl
    · obtain ⟨k, hk, e⟩ := hF.dn j hj hf
      refine .inr (List.mem_iff_getElem.mpr ⟨sw a k, by rw [hlen]; exact sw_lt ha hk, ?_⟩)
      rw [← rd_get _ _ (by rw [hlen]; exact sw_lt ha hk), rd_swap o a _ ha, sw_sw]; exact e
  unfold ordC at h ⊢
  by_cases ht : (thru L).2.2 = 0
  rotate_left
  · rw [if_pos ht] at h; exact absurd h ht
  rw [if_neg (fun q => q ht)] at h
  by_cases hf : f < 0 ∨ 10000 < f
  · rw [if_pos hf] at h; cases h
  simp only [if_neg (show ¬ (thru L).2.2 ≠ 0 from fun q => q ht), if_neg hf, if_neg (show ¬ 64 < ops.length by omega), if_neg (show ¬ placeZ ops (swapZ o a) (List.replicate ops.length false) ≠ 0 from fun q => q hp)]
  have e1 : sw a a = a + 1 := by simp [sw]
  have e2 : sw a (a + 1) = a := by simp [sw]
  constructor
  · intro hb
    rw [if_pos (timeZ_false ops (swapZ o a) a (a + 1) (by omega) (by omega) (by rw [rd_swap o a _ ha, rd_swap o a _ ha, e1, e2]; exact hb))]
  · intro hb
    rw [if_neg (by
      rw [timeZ_true ops (swapZ o a) (fun i k h1 h2 => ?_)]
      · simp
      · rw [rd_swap o a i ha, rd_swap o a k ha]
        rcases sw_ord (a := a) h1 with q | ⟨rfl, rfl⟩
        · exact hF.tm _ _ q (sw_lt ha (by omega))
        · rw [e1, e2]; exact hb)]
    exact ordZ_vals L ops f _ _
end Go.Proofs.Ytddkoimaghcbeaa.PVmSteps
end
section
namespace Go.Proofs.Ytddkoimaghcbeaa.PVmSteps
open Go.RowKit Go.Proofs.YtddkoimaghcbeaaW.PrintWords Go.Proofs.YtddkoimaghcbeaaW.PrintLast Go.Proofs.YtddkoimaghcbeaaW.PrintMore
set_option linter.unusedVariables false
set_option linter.unusedSimpArgs false
/-- What holds inside a drawn statement with two new variables: made by operations i and j, written by operations p and q. -/
structure TwoC (WX : World) (i p j q : Nat) (z x y : Obj) (b : Nat → Bool) (us : Nat → Value) (W : World) : Prop where
  hB : Below WX.heap.size WX W
  h1 : rbX W WX.heap.size (b i) (b p) (us i) z x
  h2 : rbX W WX.heap.size (b j) (b q) (us j) z y
  ne : b i = true → b j = true → us i ≠ us j
  d1 : b p = true → b i = true
  d2 : b q = true → b j = true
section
variable {WX W : World} {i p j q : Nat} {z x y : Obj} {b : Nat → Bool} {us : Nat → Value}
theorem TwoC.start (WX : World) (i p j q : Nat) (z x y : Obj) (us : Nat → Value) : TwoC WX i p j q z x y (fun _ => false) us WX.drew := ⟨below_drew (Below.refl _ _), (fun h => by cases h), (fun h => by cases h), (fun h => by cases h), (fun h => by cases h), (fun h => by cases h)⟩
theorem TwoC.off {k : Nat} (h : TwoC WX i p j q z x y b us W) (h1 : i ≠ k) (h2 : p ≠ k) (h3 : j ≠ k) (h4 : q ≠ k) : TwoC WX i p j q z x y (up b k) us W :=
  ⟨h.hB, by rw [up_off h1, up_off h2]; exact h.h1, by rw [up_off h3, up_off h4]; exact h.h2, by rw [up_off h1, up_off h3]; exact h.ne, by rw [up_off h1, up_off h2]; exact h.d1, by rw [up_off h3, up_off h4]; exact h.d2⟩
theorem TwoC.came {W' : World} (h : TwoC WX i p j q z x y b us W) (hb : Below W.heap.size W W') : TwoC WX i p j q z x y b us W' := ⟨below_step h.hB hb, h.h1.below hb, h.h2.below hb, h.ne, h.d1, h.d2⟩
theorem TwoC.flip (h : TwoC WX i p j q z x y b us W) : TwoC WX j q i p z y x b us W := ⟨h.hB, h.h2, h.h1, fun a c e => h.ne c a e.symm, h.d2, h.d1⟩
theorem TwoC.new1 (h : TwoC WX i p j q z x y b us W) (hpi : p ≠ i) (hji : j ≠ i) (hqi : q ≠ i) (hb : b i = false) : TwoC WX i p j q z x y (up b i) (usUp us i (.pointer (some ⟨W.heap.size, 0, none⟩))) (W.alloc z) := by
  have hp : b p = false := by
    cases hc : b p with
    | false => rfl
    | true => rw [h.d1 hc] at hb; cases hb
  have e : usUp us i (.pointer (some ⟨W.heap.size, 0, none⟩)) i = .pointer (some ⟨W.heap.size, 0, none⟩) := by simp [usUp]
  have e2 : usUp us i (.pointer (some ⟨W.heap.size, 0, none⟩)) j = us j := by simp [usUp, hji]
  refine ⟨below_step h.hB (below_alloc (Below.refl _ _) _), ?_, ?_, ?_, fun _ => by simp [up], ?_⟩
  · rw [up_off hpi, e]; exact rbX.new hp h.hB.size
  · rw [up_off hji, up_off hqi, e2]; exact h.h2.below (below_alloc (Below.refl _ _) _)
  · intro _ hj
    rw [up_off hji] at hj
    rw [e, e2]
    obtain ⟨g, eg, _, hg⟩ := h.h2 hj
    rw [eg]
    have := blk_lt hg
    intro q; injection q with q; injection q with q; injection q with q; omega
  · rw [up_off hji, up_off hqi]; exact h.d2
theorem TwoC.new2 (h : TwoC WX i p j q z x y b us W) (hpj : p ≠ j) (hij : i ≠ j) (hqj : q ≠ j) (hb : b j = false) : TwoC WX i p j q z x y (up b j) (usUp us j (.pointer (some ⟨W.heap.size, 0, none⟩))) (W.alloc z) := (h.flip.new1 hqj hij hpj hb).flip
theorem TwoC.at1 (h : TwoC WX i p j q z x y b us W) (hi : b i = true) (hp : b p = false) : ∃ g, us i = .pointer (some ⟨g, 0, none⟩) ∧ WX.heap.size ≤ g ∧ W.heap[g]? = some z := h.h1.at hi hp
theorem TwoC.put1 {W' : World} {g : Nat} (h : TwoC WX i p j q z x y b us W) (hip : i ≠ p) (hjp : j ≠ p) (hqp : q ≠ p) (hi : b i = true) (eg : us i = .pointer (some ⟨g, 0, none⟩)) (hg : WX.heap.size ≤ g) (hB : Below WX.heap.size WX W') (hk : W'.heap[g]? = some x) (hfar : ∀ k, k ≠ g → W'.heap[k]? = W.heap[k]?) : TwoC WX i p j q z x y (up b p) us W' := by
  refine ⟨hB, ?_, ?_, ?_, fun _ => by rw [up_off hip]; exact hi, ?_⟩
  · intro _
    have e : up b p p = true := by simp [up]
    rw [e]
    exact ⟨g, eg, hg, hk⟩
  · rw [up_off hjp, up_off hqp]
    intro hj
    obtain ⟨g2, e2, h2, h3⟩ := h.h2 hj
    refine ⟨g2, e2, h2, ?_⟩
    have hne := h.ne hi hj
    rw [eg, e2] at hne
    rw [hfar g2 (fun q => hne (by rw [q]))]
    exact h3
  · rw [up_off hip, up_off hjp]; exact h.ne
  · rw [up_off hjp, up_off hqp]; exact h.d2
theorem TwoC.put2 {W' : World} {g : Nat} (h : TwoC WX i p j q z x y b us W) (hjq : j ≠ q) (hiq : i ≠ q) (hpq : p ≠ q) (hj : b j = true) (eg : us j = .pointer (some ⟨g, 0, none⟩)) (hg : WX.heap.size ≤ g) (hB : Below WX.heap.size WX W') (hk : W'.heap[g]? = some y) (hfar : ∀ k, k ≠ g → W'.heap[k]? = W.heap[k]?) : TwoC WX i p j q z x y (up b q) us W' := (h.flip.put1 hjq hiq hpq hj eg hg hB hk hfar).flip
end
def opZ : Obj := .cells #[.int .i64 0, .int .i64 0, .int .i64 0, .bool false, .int .i64 0, .int .i64 0, .int .i64 0] 65
def opO (p : S65) : Obj := .cells #[.int .i64 p.f0, .int .i64 p.f1, .int .i64 p.f2, .bool p.f3, .int .i64 p.f4, .int .i64 p.f5, .int .i64 p.f6] 65
def opPut (W : World) (g : Nat) (p : S65) : World := (((((((W.setCell ⟨g, 0, none⟩ (.int .i64 p.f0)).setCell ⟨g, 1, none⟩ (.int .i64 p.f1)).setCell ⟨g, 2, none⟩ (.int .i64 p.f2)).setCell ⟨g, 3, none⟩ (.bool p.f3)).setCell ⟨g, 4, none⟩ (.int .i64 p.f4)).setCell ⟨g, 5, none⟩ (.int .i64 p.f5)).setCell ⟨g, 6, none⟩ (.int .i64 p.f6))
theorem opPut_far (W : World) (g : Nat) (p : S65) (k : Nat) (h : k ≠ g) : (opPut W g p).heap[k]? = W.heap[k]? := by
  unfold opPut
  rw [Below.heap_setCell _ _ _ k h, Below.heap_setCell _ _ _ k h, Below.heap_setCell _ _ _ k h, Below.heap_setCell _ _ _ k h, Below.heap_setCell _ _ _ k h, Below.heap_setCell _ _ _ k h, Below.heap_setCell _ _ _ k h]
end Go.Proofs.Ytddkoimaghcbeaa.PVmSteps
end
section
namespace Go.Proofs.Ytddkoimaghcbeaa.PVmSteps
open Go.RowKit Go.Proofs.YtddkoimaghcbeaaW.PrintWords Go.Proofs.YtddkoimaghcbeaaW.PrintLast Go.Proofs.YtddkoimaghcbeaaW.PrintMore
set_option linter.unusedVariables false
set_option linter.unusedSimpArgs false
variable {P : Program} {B : List Nat} {C : RbC} {i : Nat} {o : Oper} {A : (Nat → Value) → Act}
/-- A read that may look at what is done so far. -/
theorem rb_read {v : Value} (hE : rbOff C i) (h : ∀ b us w, b i = false → (∀ j, j < i → (B.getD i 0).testBit j = true → b j = true) → C b us w → (execOp (A us).eval o).run P w = .ok (.value v) w) : rbOp P B C i o A (some v) := fun b us w hb hon hC => by
  rw [h b us w hb hon hC]; exact ⟨rfl, hE b us w hC⟩
/-- The swap of two numbers of a row, in a drawn statement: loads 9 and 13, stores 15 and 17. -/
structure SwapC (W2 : World) (go cap n gx gy : Nat) (X Y : Obj) (o : List Int) (i : Nat) (u v : Int) (b : Nat → Bool) (us : Nat → Value) (W : World) : Prop where
  hB : Below W2.heap.size W2 W
  hx : W.heap[gx]? = some X
  hy : W.heap[gy]? = some Y
  ph : (b 15 = true ∨ b 17 = true) → b 9 = true ∧ b 13 = true
  row : Kd.R (Kd.int .i64) 3 W W2.heap.size (fun _ => True) (.slice (some ⟨go, 0, none⟩) n cap) (if b 17 = true then (if b 15 = true then o.set i u else o).set (i + 1) v else (if b 15 = true then o.set i u else o))
theorem up_on {b : Nat → Bool} {k j : Nat} (h : b j = true) : up b k j = true := by
  by_cases c : j = k
  · subst c; simp [up]
  · rw [up_off c]; exact h
section
variable {W2 W : World} {go cap n gx gy : Nat} {X Y : Obj} {o : List Int} {i : Nat} {u v : Int} {b : Nat → Bool} {us : Nat → Value}
theorem SwapC.off {k : Nat} (h : SwapC W2 go cap n gx gy X Y o i u v b us W) (h1 : 15 ≠ k) (h2 : 17 ≠ k) : SwapC W2 go cap n gx gy X Y o i u v (up b k) us W :=
  ⟨h.hB, h.hx, h.hy, by rw [up_off h1, up_off h2]; exact fun q => ⟨up_on (h.ph q).1, up_on (h.ph q).2⟩, by rw [up_off h1, up_off h2]; exact h.row⟩
theorem SwapC.old (h : SwapC W2 go cap n gx gy X Y o i u v b us W) (hb : b 9 = false ∨ b 13 = false) : Kd.R (Kd.int .i64) 3 W W2.heap.size (fun _ => True) (.slice (some ⟨go, 0, none⟩) n cap) o := by
  have h15 : ¬ b 15 = true := fun q => by have := h.ph (.inl q); rcases hb with e | e <;> simp_all
  have h17 : ¬ b 17 = true := fun q => by have := h.ph (.inr q); rcases hb with e | e <;> simp_all
  have r := h.row
  rw [if_neg h17, if_neg h15] at r
  exact r
theorem SwapC.put15 (h : SwapC W2 go cap n gx gy X Y o i u v b us W) (h9 : b 9 = true) (h13 : b 13 = true) (hb : b 15 = false) (hg : W2.heap.size ≤ go) (h1 : gx ≠ go) (h2 : gy ≠ go) : SwapC W2 go cap n gx gy X Y o i u v (up b 15) us (W.setCell ⟨go, i, none⟩ (.int .i64 u)) := by
  refine ⟨below_set h.hB hg, (Below.heap_setCell _ _ _ gx h1).trans h.hx, (Below.heap_setCell _ _ _ gy h2).trans h.hy, fun _ => ⟨up_on h9, up_on h13⟩, ?_⟩
  have e : up b 15 15 = true := by simp [up]
  have r := (Kd.R_putg h.row (i : Int) u).1
  rw [hb] at r
  rw [up_off (by decide : (17 : Nat) ≠ 15), e]
  simp only [Int.toNat_natCast] at r
  by_cases c : b 17 = true
  · rw [if_pos c] at r ⊢
    rw [if_neg (by simp)] at r
    rw [if_pos rfl, List.set_comm _ _ (by omega : i ≠ i + 1)]
    exact r
  · rw [if_neg c] at r ⊢
    rw [if_neg (by simp)] at r
    rw [if_pos rfl]
    exact r
theorem SwapC.put17 (h : SwapC W2 go cap n gx gy X Y o i u v b us W) (h9 : b 9 = true) (h13 : b 13 = true) (hb : b 17 = false) (hg : W2.heap.size ≤ go) (h1 : gx ≠ go) (h2 : gy ≠ go) : SwapC W2 go cap n gx gy X Y o i u v (up b 17) us (W.setCell ⟨go, i + 1, none⟩ (.int .i64 v)) := by
  refine ⟨below_set h.hB hg, (Below.heap_setCell _ _ _ gx h1).trans h.hx, (Below.heap_setCell _ _ _ gy h2).trans h.hy, fun _ => ⟨up_on h9, up_on h13⟩, ?_⟩
  have e : up b 17 17 = true := by simp [up]
  have r := (Kd.R_putg h.row ((i + 1 : Nat) : Int) v).1
  rw [hb] at r
  rw [up_off (by decide : (15 : Nat) ≠ 17), e, if_pos rfl]
  simp only [Int.toNat_natCast] at r
  rw [if_neg (by simp)] at r
  exact r
theorem SwapC.start (hB : Below W2.heap.size W2 W) (hx : W.heap[gx]? = some X) (hy : W.heap[gy]? = some Y) (row : Kd.R (Kd.int .i64) 3 W W2.heap.size (fun _ => True) (.slice (some ⟨go, 0, none⟩) n cap) o) : SwapC W2 go cap n gx gy X Y o i u v (fun _ => false) us W.drew :=
  ⟨below_drew hB, hx, hy, fun h => by simp at h, by simpa using Kd.R_below row (below_drew (Below.refl _ _))⟩
theorem SwapC.cell {j : Nat} (h : SwapC W2 go cap n gx gy X Y o i u v b us W) (hj : j < n) : ∃ z, W.cell? ⟨go, j, none⟩ = some (.int .i64 z) ∧ W.frozen? ⟨go, j, none⟩ = false := by
  have := Kd.R_celln (0 : Int) h.row (j : Int) (by omega) (by omega)
  exact ⟨_, by simpa using this.1, by simpa using this.2⟩
end
end Go.Proofs.Ytddkoimaghcbeaa.PVmSteps
end
