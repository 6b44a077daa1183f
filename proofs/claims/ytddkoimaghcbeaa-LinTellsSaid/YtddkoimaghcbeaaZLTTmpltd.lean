/- A part of what the law LinTells stands on, only as far as it is needed (the words and walks were printed or written in this seat; this text was cut by a program of this session, wip/bin/trim.py). No condition beyond what each theorem says. -/
import Derived.Test.YtddkoimaghcbeaaZLTPVmStepsx0
import Derived.Test.YtddkoimaghcbeaaZLTPVmStepsx2
import Derived.Test.YtddkoimaghcbeaaZLTPVmStepsx3
import Derived.Test.YtddkoimaghcbeaaZLTPVmStepsx4
import Derived.Test.YtddkoimaghcbeaaZLTPVmStepsx5
import Derived.Test.YtddkoimaghcbeaaZLTPVmStepsx6
import Derived.Test.YtddkoimaghcbeaaZLTTmpltc
namespace Go.Proofs.Ytddkoimaghcbeaa.PVmSteps
open Go.RowKit Go.Proofs.YtddkoimaghcbeaaW.PrintWords Go.Proofs.YtddkoimaghcbeaaW.PrintLast Go.Proofs.YtddkoimaghcbeaaW.PrintMore
set_option linter.unusedVariables false
set_option linter.unusedSimpArgs false
def plC (v : Value) (p : Ps) : List Value := [v, .int .i64 (rdOf 0 p.2 0), .int .i64 (rdOf 0 p.2 1), .int .i64 (rdOf 0 p.2 2), .int .i64 (rdOf 0 p.2 3)]
def csC (l : List Int) : List Value := [.int .i64 (rdOf 0 l 0), .int .i64 (rdOf 0 l 1), .int .i64 (rdOf 0 l 2), .int .i64 (rdOf 0 l 3)]
def kCs : Kd (List Int) := flatK csC 4 (fun _ => rfl) (fun x u hu => by
  simp only [csC, List.mem_cons, List.not_mem_nil, or_false] at hu
  rcases hu with rfl | rfl | rfl | rfl <;> rfl)
def kPl (n : Nat) : Kd Ps := Kd.iso (Kd.pair (Kd.slice 4 Kd.bool) kCs) (fun p : Ps => (bitsZ n p.1, p.2))
theorem kPl_E (n : Nat) : (kPl n).E = [4] := rfl
theorem kPl_mkM {n : Nat} {w : World} {base : Nat} {ok : Nat → Prop} {p : Ps} {v : Value} (h : Kd.bool.R 4 w base ok v (bitsZ n p.1)) : (kPl n).M w base ok p (plC v p) := ⟨[v], csC p.2, rfl, ⟨v, rfl, h⟩, rfl⟩
theorem kPl_openK {n : Nat} {w : World} {p : Ps} {cs : List Value} (h : (kPl n).K w p cs) : ∃ A c, cs = plC (.slice A n c) p ∧ n ≤ c ∧ Kd.bool.C w A n (bitsZ n p.1) := by
  obtain ⟨c0, c1, rfl, ⟨A, c, rfl, h1, h2⟩, h3⟩ := h
  have h3' : c1 = csC p.2 := h3
  subst h3'
  have e : (bitsZ n p.1).length = n := bits_len n p.1
  refine ⟨A, c, ?_, ?_, ?_⟩
  · show [Value.slice A (bitsZ n p.1).length c] ++ csC p.2 = _
    rw [e]; rfl
  · have h1' : (bitsZ n p.1).length ≤ c := h1
    omega
  · have h2' : Kd.bool.C w A (bitsZ n p.1).length (bitsZ n p.1) := h2
    rwa [e] at h2'
/-- An element of a row of places. -/
theorem pl_at {n m : Nat} {w : World} {A : Option Addr} {xs : List Ps} (h : (kPl n).C w A m xs) (i : Nat) (h1 : i < m) : ∃ ad AI c p, A = some ad ∧ xs[i]? = some p ∧ Kd.bool.C w AI n (bitsZ n p.1) ∧ w.cell? (ad.add (i * 5)) = some (.slice AI n c) ∧ w.cell? ⟨(ad.add (i * 5)).block, (ad.add (i * 5)).off + 1, none⟩ = some (.int .i64 (rdOf 0 p.2 0)) ∧ w.cell? ⟨(ad.add (i * 5)).block, (ad.add (i * 5)).off + 2, none⟩ = some (.int .i64 (rdOf 0 p.2 1)) ∧ w.cell? ⟨(ad.add (i * 5)).block, (ad.add (i * 5)).off + 3, none⟩ = some (.int .i64 (rdOf 0 p.2 2)) ∧ w.cell? ⟨(ad.add (i * 5)).block, (ad.add (i * 5)).off + 4, none⟩ = some (.int .i64 (rdOf 0 p.2 3)) := by
  have hl : xs.length = m := h.1
  obtain ⟨ad, c, e, _, hK, hc0⟩ := Kd.C_get h (0, []) (i : Int) (by omega) (by omega)
  simp only [Int.toNat_natCast] at hK hc0
  rw [List.getD_eq_getElem?_getD, List.getElem?_eq_getElem (by omega), Option.getD_some] at hK
  obtain ⟨AI, cI, e2, _, hI⟩ := kPl_openK hK
  have hc1 : ∀ j u, c[j]? = some u → w.cell? (ad.add (i * 5 + j)) = some u := hc0
  have hc : ∀ j u, (plC (.slice AI n cI) xs[i])[j]? = some u → w.cell? (ad.add (i * 5 + j)) = some u := fun j u hj => hc1 j u (by rw [e2]; exact hj)
  exact ⟨ad, AI, cI, xs[i], e, List.getElem?_eq_getElem (by omega), hI, hc 0 _ rfl, by rw [← add_field _ _ 1 (by omega)]; exact hc 1 _ rfl, by rw [← add_field _ _ 2 (by omega)]; exact hc 2 _ rfl, by rw [← add_field _ _ 3 (by omega)]; exact hc 3 _ rfl, by rw [← add_field _ _ 4 (by omega)]; exact hc 4 _ rfl⟩
structure SeM (w0 W : World) (q : LinQ) (g : Nat) (vL vO vW vR : Value) (s : RfS) : Prop where
  hB : Below w0.heap.size w0 W
  bg : w0.heap.size ≤ g
  hk : W.heap[g]? = some (Obj.cells #[vL, .int .i64 q.fuel, .int .i64 q.budget, vO, vW, .int .i64 0, vR, .int .i64 (s.tries : Int)] 121 (0, 0))
  hW : (kPl q.ops.length).R 125 W w0.heap.size (fun _ => True) vW s.was
  hR : (Kd.int .i64).R 3 W w0.heap.size (fun _ => True) vR s.ord
/-- What stays: all but the search's own block and the row of the places that it was at. -/
structure FrZ (W : World) (v : Value) (W' : World) (v' : Value) (g : Nat) : Prop where
  sz : W.heap.size ≤ W'.heap.size
  eq : ∀ k, k < W.heap.size → k ≠ g → some k ≠ v.ownBlock → W'.heap[k]? = W.heap[k]?
  at_ : v'.ownBlock = v.ownBlock ∨ ∃ b, v'.ownBlock = some b ∧ W.heap.size ≤ b
section
variable {w0 W W' W8 : World} {q : LinQ} {g : Nat} {vL vO vW vR v8 : Value} {s : RfS}
theorem FrZ.below (h : Below W.heap.size W W') (v : Value) (g : Nat) : FrZ W v W' v g := ⟨h.size, fun k hk _ _ => h.block k hk, .inl rfl⟩
theorem FrZ.trans {W1 W2 : World} {v1 v2 : Value} (h : FrZ W vW W1 v1 g) (h' : FrZ W1 v1 W2 v2 g) : FrZ W vW W2 v2 g := by
  refine ⟨Nat.le_trans h.sz h'.sz, fun k hk hg hv => ?_, ?_⟩
  · refine (h'.eq k (Nat.lt_of_lt_of_le hk h.sz) hg ?_).trans (h.eq k hk hg hv)
    rcases h.at_ with e | ⟨b, e, hb⟩
    · rw [e]; exact hv
    · rw [e]; intro e2; injection e2 with e2; omega
  · rcases h'.at_ with e | ⟨b, e, hb⟩
    · rw [e]; exact h.at_
    · exact .inr ⟨b, e, Nat.le_trans h.sz hb⟩
theorem FrZ.set (W : World) (v : Value) (g j : Nat) (u : Value) : FrZ W v (W.setCell ⟨g, j, none⟩ u) v g := ⟨by simp [World.setCell], fun k _ hg _ => Below.heap_setCell _ _ _ _ hg, .inl rfl⟩
theorem FrZ.same (h : FrZ W vW W' v8 g) {cg : Array Value} (hk : W.heap[g]? = some (Obj.cells cg 121 (0, 0))) (hrow : ∀ k, vW.ownBlock = some k → ∃ cells, W.heap[k]? = some (Obj.cells cells 125 (0, 0))) {t : Nat} (h1 : t ≠ 121) (h2 : t ≠ 125) : SameT W W' t := fun k cells hc =>
  h.eq k (blk_lt hc) (blk_ne hc hk h1) (ne_row hrow hc h2)
theorem FrZ.keep (h : FrZ W vW W' v8 g) {k : Nat} {o : Obj} (hk : W.heap[k]? = some o) (hg : k ≠ g) (hv : some k ≠ vW.ownBlock) : W'.heap[k]? = some o ∧ some k ≠ v8.ownBlock := by
  refine ⟨(h.eq k (blk_lt hk) hg hv).trans hk, ?_⟩
  rcases h.at_ with e | ⟨b, e, hb⟩
  · rw [e]; exact hv
  · rw [e]; intro e2; injection e2 with e2; have := blk_lt hk; omega
theorem SeM.came (h : SeM w0 W q g vL vO vW vR s) (hb : Below W.heap.size W W') : SeM w0 W' q g vL vO vW vR s := ⟨below_step h.hB hb, h.bg, blk_below h.hk hb, Kd.R_below h.hW hb, Kd.R_below h.hR hb⟩
theorem SeM.row (h : SeM w0 W q g vL vO vW vR s) : ∀ k, vW.ownBlock = some k → ∃ cells, W.heap[k]? = some (Obj.cells cells 125 (0, 0)) := Kd.R_row h.hW
theorem SeM.fresh (h : SeM w0 W q g vL vO vW vR s) {k : Nat} (hk : W.heap.size ≤ k) : some k ≠ vW.ownBlock := fun e => by
  obtain ⟨cs, hc⟩ := h.row k e.symm
  have := blk_lt hc; omega
theorem SeM.cells (h : SeM w0 W q g vL vO vW vR s) (W_ : World) (hb : Below W.heap.size W W_) :
    W_.cell? ⟨g, 0, none⟩ = some vL ∧ W_.cell? ⟨g, 1, none⟩ = some (.int .i64 q.fuel) ∧ W_.cell? ⟨g, 2, none⟩ = some (.int .i64 q.budget) ∧ W_.cell? ⟨g, 3, none⟩ = some vO ∧ W_.cell? ⟨g, 4, none⟩ = some vW ∧ W_.cell? ⟨g, 7, none⟩ = some (.int .i64 (s.tries : Int)) := by
  have h2 := blk_below h.hk hb
  exact ⟨blk_cell h2 0, blk_cell h2 1, blk_cell h2 2, blk_cell h2 3, blk_cell h2 4, blk_cell h2 7⟩
theorem SeM.app (h : SeM w0 W q g vL vO vW vR s) (hg : W.grownBy W8 vW.ownBlock) {p : Ps} (hR8 : (kPl q.ops.length).R 125 W8 w0.heap.size (fun _ => True) v8 (s.was ++ [p])) (hat : v8.ownBlock = vW.ownBlock ∨ ∃ b, v8.ownBlock = some b ∧ W.heap.size ≤ b) :
    SeM w0 (W8.setCell ⟨g, 4, none⟩ v8) q g vL vO v8 vR { s with was := s.was ++ [p] } ∧ FrZ W vW (W8.setCell ⟨g, 4, none⟩ v8) v8 g := by
  have hrow := h.row
  have hb : ∀ k, vW.ownBlock = some k → w0.heap.size ≤ k := by
    obtain ⟨inner, ho⟩ := Kd.R_own h.hW
    exact own_base ho
  have hk8 := blk_grown h.hk hg (ne_row hrow h.hk (by decide))
  have hB8 : Below w0.heap.size w0 W8 := h.hB.grown hg h.hB.size hb
  refine ⟨⟨below_set hB8 h.bg, h.bg, blk_put hk8 4 _ (by simp), Kd.R_set hR8 hk8 (by rw [kPl_E]; decide) _ _, R1_same rfl h.hR ((SameT.grown hg (by decide) hrow).trans (.set hk8 (by decide) _ _))⟩, ?_⟩
  have f1 : FrZ W vW W8 v8 g := ⟨hg.size, fun k hk _ hv => hg.block k hk hv, hat⟩
  exact f1.trans (.set _ _ _ _ _)
theorem SeM.setTries (h : SeM w0 W q g vL vO vW vR s) (m : Nat) : SeM w0 (W.setCell ⟨g, 7, none⟩ (.int .i64 (m : Int))) q g vL vO vW vR { s with tries := m } :=
  ⟨below_set h.hB h.bg, h.bg, blk_put h.hk 7 _ (by simp), Kd.R_set h.hW h.hk (by rw [kPl_E]; decide) _ _, R1_same rfl h.hR (.set h.hk (by decide) _ _)⟩
theorem SeM.setOrd (h : SeM w0 W q g vL vO vW vR s) {v : Value} {o : List Int} (hv : (Kd.int .i64).R 3 W w0.heap.size (fun _ => True) v o) : SeM w0 (W.setCell ⟨g, 6, none⟩ v) q g vL vO vW v { s with ord := o } :=
  ⟨below_set h.hB h.bg, h.bg, blk_put h.hk 6 _ (by simp), Kd.R_set h.hW h.hk (by rw [kPl_E]; decide) _ _, R1_same rfl hv (.set h.hk (by decide) _ _)⟩
/-- A place's row of bools is none of the blocks of places. -/
theorem bool_okp {base : Nat} {ok : Nat → Prop} {v : Value} {xs : List Bool} (h : Kd.bool.R 4 W base ok v xs) (hrow : ∀ k, vW.ownBlock = some k → ∃ cells, W.heap[k]? = some (Obj.cells cells 125 (0, 0))) : Kd.bool.R 4 W base (fun k => some k ≠ vW.ownBlock) v xs := by
  have hr := Kd.R_row h
  refine ⟨fun k hk e => ?_, h.2⟩
  obtain ⟨c1, h1⟩ := hr k hk
  obtain ⟨c2, h2⟩ := hrow k e.symm
  exact blk_ne h1 h2 (by decide) rfl
end
/-- append, and which block the row is in. -/
theorem Kd.run_append_h {P : Program} {α : Type} (d : Kd α) {W : World} (base : Nat) {o : Oper} {ev : Operand → Value} {K : Value → World → Prop} (s x : Operand) (t e : TypeId) (z : Value) (bytes : Nat)
    (ho : o.op = .call { callee := .builtin .append, args := #[s, x], argTypes := #[t, t] })
    (ht : P.underlying t = some (.slice e)) (hinfo : (P.info? e).map (fun i => (i.zero, i.size, i.bytes)) = some (some z, d.sz, bytes)) (hz : z.cells.size = d.sz) (hs0 : 0 < d.sz) (hb0 : 0 < bytes)
    (v : Value) (xs : List α) (p : α) (cs : List Value) (ok okp : Nat → Prop) (hs : ev s = v) (gb : Nat) (hx : ev x = .slice (some ⟨gb, 0, none⟩) 1 1) (hgb : W.heap[gb]? = some (Obj.cells cs.toArray e (0, 0))) (hp : d.M W base okp p cs) (hokp : ∀ k, okp k → ok k ∧ some k ≠ v.ownBlock) (hfresh : ∀ k, W.heap.size ≤ k → ok k)
    (HO : d.R e W base ok v xs) (hbase : base ≤ W.heap.size) (hl : (xs.length + 1) * bytes ≤ 140737488355328)
    (hk : ∀ v1 w1, d.R e w1 base ok v1 (xs ++ [p]) → W.grownBy w1 v.ownBlock → (v1.ownBlock = v.ownBlock ∨ ∃ b, v1.ownBlock = some b ∧ W.heap.size ≤ b) → K v1 w1) : ∃ u w', (execOp ev o).run P W = .ok (.value u) w' ∧ K u w' := by
  obtain ⟨i0, hi, hzz⟩ := Option.map_eq_some_iff.1 hinfo
  simp only [Prod.mk.injEq] at hzz
  obtain ⟨hz0, hz1, hz2⟩ := hzz
  have hlen : xs.length + 1 ≤ 140737488355328 := Nat.le_trans (Nat.le_mul_of_pos_right _ hb0) hl
  obtain ⟨h0, inner, hown, hr⟩ := HO
  have hcl : cs.length = d.sz := d.K_len (d.K_of_M hp)
  obtain ⟨v1, w1, hrun, hown1, hg1, _, hat1⟩ := run_append_own_at (P := P) W base t o.type e i0 z d.sz bytes ht hi hz0 hz1 hz2 hz hs0 v xs.length inner hown ⟨gb, 0, none⟩ 1 1 cs (by rw [hcl]; simp)
    (fun j u hj => by
      have := blk_cell hgb j
      rw [List.getElem?_toArray, hj] at this
      have e0 : (⟨gb, 0, none⟩ : Addr).add j = ⟨gb, j, none⟩ := by
        unfold Addr.add
        simp only [Nat.zero_add]
        split
        · rename_i z0; rw [z0]
        · rfl
      rw [e0]; exact this) (d.K_one (d.K_of_M hp)) (by simp only [maxLen]; omega) hl hbase
  have hat2 : v1.ownBlock = v.ownBlock ∨ ∃ b, v1.ownBlock = some b ∧ W.heap.size ≤ b := hat1.imp id (fun h => ⟨_, h, Nat.le_refl _⟩)
  refine ⟨v1, w1, ?_, hk v1 w1 (Kd.R_appended h0 hr hp hokp hfresh hown1 hg1 hat2) hg1 hat2⟩
  unfold execOp
  simp only [ho, resolve, invoke, builtin, Sem.run_bind, Sem.run_pure, Result.andThen_ok, List.map_toArray, List.map_cons, List.map_nil, hs, hx, hrun]
/-- The statement that puts a place at the row's end. -/
structure PutC (W1 : World) (n g : Nat) (base : Nat) (vL : Value) (xs : List Ps) (x : Ps) (vI : Value) (b : Nat → Bool) (us : Nat → Value) (W : World) : Prop where
  d7 : b 7 = true → b 4 = true ∧ b 5 = true ∧ b 6 = true
  d10 : b 10 = true → b 7 = true
  early : b 7 = false → Below W1.heap.size W1 W ∧ (b 6 = true → ∃ gb, us 6 = .slice (some ⟨gb, 0, none⟩) 1 1 ∧ W.heap[gb]? = some (Obj.cells (plC vI x).toArray 125 (0, 0)))
  late : b 7 = true → ∃ W8, W1.grownBy W8 vL.ownBlock ∧ (kPl n).R 125 W8 base (fun _ => True) (us 7) (xs ++ [x]) ∧ ((us 7).ownBlock = vL.ownBlock ∨ ∃ b, (us 7).ownBlock = some b ∧ W1.heap.size ≤ b) ∧ W = if b 10 = true then W8.setCell ⟨g, 4, none⟩ (us 7) else W8
section
variable {W1 W : World} {n g base : Nat} {vL vI : Value} {xs : List Ps} {x : Ps} {b : Nat → Bool} {us : Nat → Value}
theorem PutC.start (W1 : World) (n g base : Nat) (vL : Value) (xs : List Ps) (x : Ps) (vI : Value) (us : Nat → Value) : PutC W1 n g base vL xs x vI (fun _ => false) us W1 := ⟨fun h => (by cases h), fun h => (by cases h), fun _ => ⟨Below.refl _ _, fun h => (by cases h)⟩, fun h => (by cases h)⟩
theorem PutC.off {k : Nat} (h : PutC W1 n g base vL xs x vI b us W) (h6 : 6 ≠ k) (h7 : 7 ≠ k) (h10 : 10 ≠ k) : PutC W1 n g base vL xs x vI (up b k) us W := by
  refine ⟨fun e => ?_, fun e => ?_, fun e => ?_, fun e => ?_⟩
  · rw [up_off h7] at e; obtain ⟨a1, a2, a3⟩ := h.d7 e; exact ⟨up_on a1, up_on a2, up_on a3⟩
  · rw [up_off h10] at e; rw [up_off h7]; exact h.d10 e
  · rw [up_off h7] at e; rw [up_off h6]; exact h.early e
  · rw [up_off h7] at e; rw [up_off h10]; exact h.late e
theorem PutC.e7 {j : Nat} (h : PutC W1 n g base vL xs x vI b us W) (hj : j = 4 ∨ j = 5 ∨ j = 6) (hb : b j = false) : b 7 = false := by
  cases c : b 7 with
  | false => rfl
  | true =>
    obtain ⟨a1, a2, a3⟩ := h.d7 c
    rcases hj with rfl | rfl | rfl <;> simp_all
theorem PutC.new (h : PutC W1 n g base vL xs x vI b us W) (hb : b 6 = false) : PutC W1 n g base vL xs x vI (up b 6) (usUp us 6 (.slice (some ⟨W.heap.size, 0, none⟩) 1 1)) (W.alloc (.cells (plC vI x).toArray 125)) := by
  have h8 := h.e7 (.inr (.inr rfl)) hb
  have e8 : up b 6 7 = false := by rw [up_off (by decide)]; exact h8
  refine ⟨fun e => (by rw [e8] at e; cases e), fun e => ?_, fun _ => ⟨below_step (h.early h8).1 (below_alloc (Below.refl _ _) _), fun _ => ⟨W.heap.size, by simp [usUp], blk_new _ _⟩⟩, fun e => by rw [e8] at e; cases e⟩
  rw [up_off (by decide)] at e
  rw [h.d10 e] at h8; cases h8
theorem PutC.app (h : PutC W1 n g base vL xs x vI b us W) (h4 : b 4 = true) (h5 : b 5 = true) (h6 : b 6 = true) (hb : b 7 = false) {v1 : Value} {w1 : World} (hR : (kPl n).R 125 w1 base (fun _ => True) v1 (xs ++ [x])) (hg : W.grownBy w1 vL.ownBlock) (hat : v1.ownBlock = vL.ownBlock ∨ ∃ b, v1.ownBlock = some b ∧ W.heap.size ≤ b) : PutC W1 n g base vL xs x vI (up b 7) (usUp us 7 v1) w1 := by
  have e10 : b 10 = false := by
    cases c : b 10 with
    | false => rfl
    | true => rw [h.d10 c] at hb; cases hb
  have e7 : up b 7 7 = true := by simp [up]
  have hB := (h.early hb).1
  have hat' : v1.ownBlock = vL.ownBlock ∨ ∃ b, v1.ownBlock = some b ∧ W1.heap.size ≤ b := hat.imp id (fun ⟨b, e, hb⟩ => ⟨b, e, Nat.le_trans hB.size hb⟩)
  refine ⟨fun _ => ⟨up_on h4, up_on h5, up_on h6⟩, fun e => e7, fun e => (by rw [e7] at e; cases e), fun _ => ⟨w1, ?_, by simpa [usUp] using hR, by simpa [usUp] using hat', by rw [up_off (by decide), if_neg (by simp [e10])]⟩⟩
  exact ⟨hg.os.trans hB.os, hg.tape.trans hB.tape, hg.output.trans hB.output, Nat.le_trans hB.size hg.size, fun i hi hne => (hg.block i (Nat.lt_of_lt_of_le hi hB.size) hne).trans (hB.block i hi)⟩
theorem PutC.at (h : PutC W1 n g base vL xs x vI b us W) (h7 : b 7 = true) (h10 : b 10 = false) : W1.grownBy W vL.ownBlock ∧ (kPl n).R 125 W base (fun _ => True) (us 7) (xs ++ [x]) := by
  obtain ⟨W8, a1, a2, _, rfl⟩ := h.late h7
  rw [if_neg (by simp [h10])]
  exact ⟨a1, a2⟩
theorem PutC.put (h : PutC W1 n g base vL xs x vI b us W) (h7 : b 7 = true) (h10 : b 10 = false) : PutC W1 n g base vL xs x vI (up b 10) us (W.setCell ⟨g, 4, none⟩ (us 7)) := by
  obtain ⟨W8, a1, a2, a3, rfl⟩ := h.late h7
  rw [if_neg (by simp [h10])]
  have e7 : up b 10 7 = true := by rw [up_off (by decide)]; exact h7
  exact ⟨fun e => (let ⟨c1, c2, c3⟩ := h.d7 h7; ⟨up_on c1, up_on c2, up_on c3⟩), fun _ => e7, fun e => (by rw [e7] at e; cases e), fun _ => ⟨W8, a1, a2, a3, by simp [up]⟩⟩
end
theorem pl_info : (Try.prog.info? 125).map (fun i => (i.zero, i.size, i.bytes)) = some (some (.agg #[.slice none 0 0, .int .i64 0, .int .i64 0, .int .i64 0, .int .i64 0]), 5, 56) := by kernel_rfl
theorem pl_lit1 (w : World) (v0 v1 v2 v3 v4 : Value) : (Instr.buildSlice 119 1 #[(0, .agg #[v0, v1, v2, v3, v4])]).run Try.prog w = .ok (.slice (some ⟨w.heap.size, 0, none⟩) 1 1) (w.alloc (.cells #[v0, v1, v2, v3, v4] 125)) := by kernel_rfl
theorem pl_bld (w : World) (v1 v2 v3 v4 : Value) : (Instr.build 125 #[(1, .agg #[v1, v2, v3, v4])]).run Try.prog w = .ok (.agg #[.slice none 0 0, v1, v2, v3, v4]) w := by kernel_rfl
theorem pl_bld0 (w : World) (A : Option Addr) (n c : Nat) : (Instr.build 125 #[(0, .slice A n c)]).run Try.prog w = .ok (.agg #[.slice A n c, .int .i64 0, .int .i64 0, .int .i64 0, .int .i64 0]) w := by kernel_rfl
end Go.Proofs.Ytddkoimaghcbeaa.PVmSteps
