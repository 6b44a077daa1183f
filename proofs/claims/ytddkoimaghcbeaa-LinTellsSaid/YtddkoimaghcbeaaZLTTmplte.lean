/- A part of what the law LinTells stands on, only as far as it is needed (the words and walks were printed or written in this seat; this text was cut by a program of this session, wip/bin/trim.py). No condition beyond what each theorem says. -/
import Derived.Test.YtddkoimaghcbeaaZLTPVmStepsx0
import Derived.Test.YtddkoimaghcbeaaZLTPVmStepsx2
import Derived.Test.YtddkoimaghcbeaaZLTPVmStepsx3
import Derived.Test.YtddkoimaghcbeaaZLTPVmStepsx4
import Derived.Test.YtddkoimaghcbeaaZLTPVmStepsx5
import Derived.Test.YtddkoimaghcbeaaZLTPVmStepsx6
import Derived.Test.YtddkoimaghcbeaaZLTTmpltd
namespace Go.Proofs.Ytddkoimaghcbeaa.PVmSteps
open Go.RowKit Go.Proofs.YtddkoimaghcbeaaW.PrintWords Go.Proofs.YtddkoimaghcbeaaW.PrintLast Go.Proofs.YtddkoimaghcbeaaW.PrintMore
set_option linter.unusedVariables false
set_option linter.unusedSimpArgs false
/-- What stays while the document's search goes. -/
structure GoQ (w0 : World) (q : LinQ) (AL AO : Option Addr) (cL cO : Nat) : Prop where
  hL : Kd.C k36 w0 AL q.L.length q.L
  hcL : q.L.length ≤ cL
  L3 : q.L.length ≤ 300
  hO : Kd.C k65 w0 AO q.ops.length q.ops
  n64 : q.ops.length ≤ 64
  hc : (thru q.L).2.2 = 0
  hf : q.fuel ≤ 9223372036854775807
  hb : q.budget ≤ 1073741824
  hco : ∀ i : Int, 0 ≤ i → i < (q.L.length : Int) → inR (rd_T36 q.L i).f1
  hop : ∀ i : Int, 0 ≤ i → i < (q.ops.length : Int) → inR (rd_T65 q.ops i).f1 ∧ inR (rd_T65 q.ops i).f2
/-- What is handed in. -/
structure GoP (w0 W : World) (q : LinQ) (p : Ps) (o : List Int) (s : RfS) (vI vo : Value) : Prop where
  hp : p.1 < 2 ^ q.ops.length
  h4 : p.2.length = 4
  hin : ∀ x ∈ p.2, inR x
  hI : Kd.bool.R 4 W w0.heap.size (fun _ => True) vI (bitsZ q.ops.length p.1)
  ho : (Kd.int .i64).R 3 W w0.heap.size (fun _ => True) vo o
  ol : o.length ≤ s.tries
structure RfI (q : LinQ) (s : RfS) (k : Nat) : Prop where
  wl : s.was.length ≤ s.tries + k
  wp : ∀ x ∈ s.was, x.1 < 2 ^ q.ops.length ∧ x.2.length = 4
  tb : (s.tries : Int) ≤ q.budget
structure GoR (w0 W w' : World) (q : LinQ) (g : Nat) (vL vO vW : Value) (r : Int × RfS) (tr : Nat) : Prop where
  ex : ∃ vW' vR', SeM w0 w' q g vL vO vW' vR' r.2 ∧ FrZ W vW w' vW' g
  ok : r.1 = 0 → RfI q r.2 1 ∧ tr ≤ r.2.tries
def GoesAt (w0 : World) (q : LinQ) (g : Nat) (AL AO : Option Addr) (cL cO : Nat) (d : Nat) : Prop := ∀ (p : Ps) (o : List Int) (s : RfS) (W : World) (vW vR vI vo : Value), SeM w0 W q g (.slice AL q.L.length cL) (.slice AO q.ops.length cO) vW vR s → GoP w0 W q p o s vI vo → RfI q s 0 → remZ q.ops.length p.1 0 < d →
  Calls Try.prog 72 #[.pointer (some ⟨g, 0, none⟩), .agg #[vI, .int .i64 (rdOf 0 p.2 0), .int .i64 (rdOf 0 p.2 1), .int .i64 (rdOf 0 p.2 2), .int .i64 (rdOf 0 p.2 3)], vo] W fun e w' => e = .returned (.int .i64 (rgo q d p o s).1) ∧ GoR w0 W w' q g (.slice AL q.L.length cL) (.slice AO q.ops.length cO) vW (rgo q d p o s) s.tries
/-- Where a search is, inside goes. -/
structure GoI (w0 W0 W : World) (q : LinQ) (g bx : Nat) (vL vO vW0 vW vR vI vo : Value) (p : Ps) (o : List Int) (s : RfS) : Prop where
  hM : SeM w0 W q g vL vO vW vR s
  hbx : W.heap[bx]? = some (Obj.cells (plC vI p).toArray 125 (0, 0))
  nbx : some bx ≠ vW.ownBlock
  bg : bx ≠ g
  hI : Kd.bool.R 4 W w0.heap.size (fun _ => True) vI (bitsZ q.ops.length p.1)
  ho : (Kd.int .i64).R 3 W w0.heap.size (fun _ => True) vo o
  hF : FrZ W0 vW0 W vW g
section
variable {w0 W0 W W' : World} {q : LinQ} {g bx : Nat} {vL vO vW0 vW vW' vR vR' vI vo : Value} {p : Ps} {o : List Int} {s s' : RfS}
theorem GoI.turn (h : GoI w0 W0 W q g bx vL vO vW0 vW vR vI vo p o s) (hM : SeM w0 W' q g vL vO vW' vR' s') (hF : FrZ W vW W' vW' g) : GoI w0 W0 W' q g bx vL vO vW0 vW' vR' vI vo p o s' := by
  obtain ⟨k1, k2⟩ := hF.keep h.hbx h.bg h.nbx
  exact ⟨hM, k1, k2, h.bg, R1_same rfl h.hI (hF.same h.hM.hk h.hM.row (by decide) (by decide)), R1_same rfl h.ho (hF.same h.hM.hk h.hM.row (by decide) (by decide)), h.hF.trans hF⟩
theorem GoI.came (h : GoI w0 W0 W q g bx vL vO vW0 vW vR vI vo p o s) (hb : Below W.heap.size W W') : GoI w0 W0 W' q g bx vL vO vW0 vW vR vI vo p o s := h.turn (h.hM.came hb) (.below hb _ _)
theorem GoI.setTries (h : GoI w0 W0 W q g bx vL vO vW0 vW vR vI vo p o s) (m : Nat) : GoI w0 W0 (W.setCell ⟨g, 7, none⟩ (.int .i64 (m : Int))) q g bx vL vO vW0 vW vR vI vo p o { s with tries := m } := h.turn (h.hM.setTries m) (.set _ _ _ _ _)
theorem GoI.setOrd (h : GoI w0 W0 W q g bx vL vO vW0 vW vR vI vo p o s) {v : Value} {o' : List Int} (hv : (Kd.int .i64).R 3 W w0.heap.size (fun _ => True) v o') : GoI w0 W0 (W.setCell ⟨g, 6, none⟩ v) q g bx vL vO vW0 vW v vI vo p o { s with ord := o' } := h.turn (h.hM.setOrd hv) (.set _ _ _ _ _)
theorem GoI.box (h : GoI w0 W0 W q g bx vL vO vW0 vW vR vI vo p o s) (W_ : World) (hb : Below W.heap.size W W_) :
    W_.cell? ⟨bx, 0, none⟩ = some vI ∧ W_.cell? ⟨bx, 1, none⟩ = some (.int .i64 (rdOf 0 p.2 0)) ∧ W_.cell? ⟨bx, 2, none⟩ = some (.int .i64 (rdOf 0 p.2 1)) ∧ W_.cell? ⟨bx, 3, none⟩ = some (.int .i64 (rdOf 0 p.2 2)) ∧ W_.cell? ⟨bx, 4, none⟩ = some (.int .i64 (rdOf 0 p.2 3)) := by
  have h2 := blk_below h.hbx hb
  exact ⟨blk_cell h2 0, blk_cell h2 1, blk_cell h2 2, blk_cell h2 3, blk_cell h2 4⟩
end
/-- A row that grew in a block of its own. -/
theorem below_own2 {WS W w1 : World} {v : Value} (hB : Below WS.heap.size WS W) (hg : W.grownBy w1 v.ownBlock) (ho : ∀ k, v.ownBlock = some k → WS.heap.size ≤ k) : Below WS.heap.size WS w1 :=
  ⟨hg.os.trans hB.os, hg.tape.trans hB.tape, hg.output.trans hB.output, Nat.le_trans hB.size hg.size, fun i hi => (hg.block i (Nat.lt_of_lt_of_le hi hB.size) (fun e => by have := ho i e.symm; omega)).trans (hB.block i hi)⟩
theorem lit_oneI (w : World) (a : Int) : (Instr.buildSlice 56 1 #[(0, .int .i64 a)]).run Try.prog w = .ok (.slice (some ⟨w.heap.size, 0, none⟩) 1 1) (w.alloc (.cells #[.int .i64 a] 3)) := by kernel_rfl
theorem lit_oneCI (w : World) (a : Int) : Kd.C (Kd.int .i64) (w.alloc (.cells #[.int .i64 a] 3)) (some ⟨w.heap.size, 0, none⟩) [a].length [a] := by
  have h : Kd.R (Kd.int .i64) 3 (w.alloc (.cells [.int .i64 a].toArray 3)) w.heap.size (fun _ => True) (.slice (some ⟨w.heap.size, 0, none⟩) [a].length [a].length) [a] := ⟨fun _ _ => trivial, OwnRow.lit w w.heap.size ((Reps.none _ _).snoc rfl rfl) (Nat.le_refl _) (by simp)⟩
  exact (Kd.R_reads' h).2.2
theorem addr_at (g i : Nat) : (⟨g, 0, none⟩ : Addr).add i = ⟨g, i, none⟩ := by
  unfold Addr.add
  simp only [Nat.zero_add]
  split
  · rename_i z0; rw [z0]
  · rfl
theorem bool_info : (Try.prog.info? 4).map (fun i => (i.zero, i.size, i.bytes)) = some (some (.bool false), 1, 1) := by kernel_rfl
theorem bits_set {n i : Nat} (s : Nat) (hi : i < n) : (bitsZ n s).set i true = bitsZ n (s ||| 2 ^ i) := by
  apply List.ext_getElem (by simp [bitsZ])
  intro k h1 h2
  rw [List.getElem_set]
  simp only [bitsZ, List.getElem_map, List.getElem_range, Nat.testBit_or, Nat.testBit_two_pow]
  by_cases c : i = k
  · simp [c]
  · simp [c]
theorem place_eq {p : Ps} (hp : p.2.length = 4) (z : Nat) (a b c d : Int) : ((rdOf 0 p.2 0 == a && (rdOf 0 p.2 1 == b && (rdOf 0 p.2 2 == c && (rdOf 0 p.2 3 == d)))) && decide (p.1 = z)) = decide (p = (z, [a, b, c, d])) := by
  obtain ⟨s, cs⟩ := p
  obtain ⟨x0, x1, x2, x3, rfl⟩ := four_of hp
  rw [Bool.eq_iff_iff]
  simp [rdOf]
  constructor
  · rintro ⟨⟨h0, h1, h2, h3⟩, h4⟩
    exact ⟨h4, h0, h1, h2, h3⟩
  · rintro ⟨h4, h0, h1, h2, h3⟩
    exact ⟨⟨h0, h1, h2, h3⟩, h4⟩
theorem emp_row (w : World) (base : Nat) (hb : base ≤ w.heap.size) : (Kd.int .i64).R 3 (w.alloc (.cells #[] 3)) base (fun _ => True) (.slice (some ⟨w.heap.size, 0, none⟩) 0 0) ([] : List Int) := ⟨fun _ _ => trivial, OwnRow.lit w base (Reps.none _ _) hb (by simp)⟩
set_option maxRecDepth 100000 in
set_option maxHeartbeats 8000000 in
theorem r18_goes_step {w0 : World} {q : LinQ} {g : Nat} {AL AO : Option Addr} {cL cO : Nat} (hQ : Aside0 (GoQ w0 q AL AO cL cO)) (d : Nat) (IH : Aside0 (GoesAt w0 q g AL AO cL cO d)) : GoesAt w0 q g AL AO cL cO (d + 1) := by
  intro p o s W vW vR vI vo hM hP hI0 hd
  obtain ⟨s0, cs⟩ := p
  obtain ⟨e0, e1, e2, e3, rfl⟩ := four_of hP.h4
  show Calls Try.prog 72 #[.pointer (some ⟨g, 0, none⟩), .agg #[vI, .int .i64 e0, .int .i64 e1, .int .i64 e2, .int .i64 e3], vo] W _
  obtain ⟨hp, _, hin, hI, ho, hol⟩ := hP
  obtain ⟨AI, cI, rfl⟩ := Kd.R_slice hI
  rw [bits_len] at hI ⊢
  obtain ⟨Ao, co, rfl⟩ := Kd.R_slice ho
  have hol2 := Aside0.mk hol
  replace hol : Aside0 (o.length ≤ 1073741824) := ⟨by have := hI0.tb; have := hQ.out.hb; omega⟩
  replace hp := Aside0.mk hp
  replace hin := Aside0.mk hin
  replace hd := Aside0.mk hd
  replace hI0 := Aside0.mk hI0
  have hM0 := Aside0.mk hM
  have hI00 := Aside0.mk hI
  have ho00 := Aside0.mk ho
  have hlb : Aside0 ((s.was.length + 1) * 56 ≤ 140737488355328) := ⟨by have := hI0.out.wl; have := hI0.out.tb; have := hQ.out.hb; omega⟩
  obtain ⟨r, hr⟩ : ∃ r, r = rgo q (d + 1) (s0, [e0, e1, e2, e3]) o s := ⟨_, rfl⟩
  rw [← hr]
  rw [rgo] at hr
  obtain ⟨fb, hfb⟩ : ∃ b, decide (s0 &&& mustZ q.ops = mustZ q.ops) = b := ⟨_, rfl⟩
  replace hfb := Aside0.mk hfb
  replace hr := Aside0.mk hr
  clear hM hI ho
  go_enter Try.func72, Try.ntmps72
  go_wp2
  refine vm_gen _ (fun W1 => Below W.heap.size W W1 ∧ W1.heap[W.heap.size]? = some (Obj.cells (plC (.slice AI q.ops.length cI) (s0, [e0, e1, e2, e3])).toArray 125 (0, 0))) ⟨by repeat (first | exact Below.refl _ _ | apply pw_below_drewN | apply below_alloc), by first | exact blk_new _ _ | trace_state⟩ ?_
  rintro W1 ⟨hB1, hgp⟩
  have hM1 := Aside0.mk (hM0.out.came (below_step hB1 (below_drew (Below.refl _ _))))
  have hI1 := Aside0.mk (Kd.R_below hI00.out (below_step hB1 (below_drew (Below.refl _ _))))
  have ho1 := Aside0.mk (Kd.R_below ho00.out (below_step hB1 (below_drew (Below.refl _ _))))
  have hcel : Aside0 (∀ W_ : World, Below W1.drew.heap.size W1.drew W_ → W_.cell? ⟨g, 4, none⟩ = some vW) := ⟨fun W_ hb => blk_cell (blk_below hM1.out.hk hb) 4⟩
  have hbx0 : W1.drew.heap[W.heap.size]? = some (Obj.cells (plC (.slice AI q.ops.length cI) (s0, [e0, e1, e2, e3])).toArray 125 (0, 0)) := hgp
  have nbx0 : some W.heap.size ≠ vW.ownBlock := hM0.out.fresh (Nat.le_refl _)
  have hbg0 : W.heap.size ≠ g := fun e => by have := blk_lt hM0.out.hk; omega
  have hbxc : Aside0 (∀ W_ : World, Below W1.drew.heap.size W1.drew W_ → W_.cell? ⟨W.heap.size, 0, none⟩ = some (.slice AI q.ops.length cI) ∧ W_.cell? ⟨W.heap.size, 1, none⟩ = some (.int .i64 e0) ∧ W_.cell? ⟨W.heap.size, 2, none⟩ = some (.int .i64 e1) ∧ W_.cell? ⟨W.heap.size, 3, none⟩ = some (.int .i64 e2) ∧ W_.cell? ⟨W.heap.size, 4, none⟩ = some (.int .i64 e3)) := ⟨fun W_ hb => by
    have h2 := blk_below hbx0 hb
    exact ⟨blk_cell h2 0, blk_cell h2 1, blk_cell h2 2, blk_cell h2 3, blk_cell h2 4⟩⟩
  have hcg : Aside0 (∀ W_ : World, W1.drew.grownBy W_ vW.ownBlock → W_.cell? ⟨g, 4, none⟩ = some vW ∧ W_.frozen? ⟨g, 4, none⟩ = false) := ⟨fun W_ hg => by
    have hk := blk_grown hM1.out.hk hg (ne_row hM1.out.row hM1.out.hk (by decide))
    exact ⟨blk_cell hk 4, blk_frozen hk 4⟩⟩
  have hG1 : Aside0 (GoI w0 W W1.drew q g W.heap.size (.slice AL q.L.length cL) (.slice AO q.ops.length cO) vW vW vR (.slice AI q.ops.length cI) (.slice Ao o.length co) (s0, [e0, e1, e2, e3]) o s) := ⟨⟨hM1.out, hbx0, nbx0, hbg0, hI1.out, ho1.out, .below (below_step hB1 (below_drew (Below.refl _ _))) _ _⟩⟩
  replace hgp := Aside0.mk hgp
  clear hB1 hbx0 nbx0 hbg0
  go_wp2
  refine region_by (fun b us W_ => PutC W1.drew q.ops.length g w0.heap.size vW s.was (s0, [e0, e1, e2, e3]) (.slice AI q.ops.length cI) b us W_) (by kernel_rfl) (by kernel_rfl) ⟨fun _ => undef, PutC.start _ _ _ _ _ _ _ _ _⟩ ?_
  iterate 4 (refine rb_want (fun us => rfl) ?_; apply Exists.intro; apply And.intro; (focus (apply rb_pure; (focus (intro b us w h; exact h.off (by decide) (by decide) (by decide))); intro b us W_ hC; go_simp; rfl)); apply Exists.intro; apply And.intro; (focus (intro us; simp only [Act.put, List.setIfInBounds_toArray, List.set_cons_zero, List.set_cons_succ]; rfl)))
  (refine rb_want (fun us => rfl) ?_; apply Exists.intro; apply And.intro; (focus (apply rb_read; (focus (intro b us w h; exact h.off (by decide) (by decide) (by decide))); intro b us W_ hb hon hC; have y := (hC.early (hC.e7 (.inl rfl) hb)).1; have k4 := hcel.out W_ y; first | (go_simp; done) | (go_simp; rfl))); apply Exists.intro; apply And.intro; (focus (intro us; simp only [Act.put, List.setIfInBounds_toArray, List.set_cons_zero, List.set_cons_succ]; rfl)))
  (refine rb_want (fun us => rfl) ?_; apply Exists.intro; apply And.intro; (focus (apply rb_read; (focus (intro b us w h; exact h.off (by decide) (by decide) (by decide))); intro b us W_ hb hon hC; have y := (hC.early (hC.e7 (.inr (.inl rfl)) hb)).1; have k5 := hbxc.out W_ y; obtain ⟨k0, k1, k2, k3, k4⟩ := k5; first | (go_simp; done) | (go_simp; rfl))); apply Exists.intro; apply And.intro; (focus (intro us; simp only [Act.put, List.setIfInBounds_toArray, List.set_cons_zero, List.set_cons_succ]; rfl)))
  (refine rb_open (fun us => rfl) (rb_new (fun b us W_ hb hon hC => ?_)) ?_; (focus (refine ⟨.slice (some ⟨W_.heap.size, 0, none⟩) 1 1, W_.alloc (.cells (plC (.slice AI q.ops.length cI) (s0, [e0, e1, e2, e3])).toArray 125), ?_, hC.new hb⟩; have y := pl_lit1 W_; unfold plC; first | (go_simp; done) | (go_simp; rfl))); apply Exists.intro; apply And.intro; (focus (intro us; simp only [Act.put, List.setIfInBounds_toArray, List.set_cons_zero, List.set_cons_succ]; rfl)))
  (refine rb_open (fun us => rfl) (rb_new (fun b us W_ hb hon hC => ?_)) ?_; (focus (have h4 := hon 4 (by decide) (by decide); have h5 := hon 5 (by decide) (by decide); have h6 := hon 6 (by decide) (by decide); obtain ⟨hB_, hbxx⟩ := hC.early hb; obtain ⟨gb, egb, hgb⟩ := hbxx h6; have hRW_ := Kd.R_below hM1.out.hW hB_; exact Kd.run_append_h (kPl q.ops.length) w0.heap.size (.tmp 19) (.tmp 21) 119 125 _ 56 (by rfl) Try.underlying119 pl_info (by rfl) (by show 0 < 5; decide) (by decide) vW s.was (s0, [e0, e1, e2, e3]) (plC (.slice AI q.ops.length cI) (s0, [e0, e1, e2, e3])) (fun _ => True) (fun k => some k ≠ vW.ownBlock) (by rfl) gb (by exact egb) hgb (kPl_mkM (bool_okp (Kd.R_below hI1.out hB_) (Kd.R_row hRW_))) (fun k hk => ⟨trivial, hk⟩) (fun _ _ => trivial) hRW_ (Nat.le_trans hM1.out.hB.size hB_.size) hlb.out (fun v1 w1 hR hg hat => hC.app h4 h5 h6 hb hR hg hat))); apply Exists.intro; apply And.intro; (focus (intro us; simp only [Act.put, List.setIfInBounds_toArray, List.set_cons_zero, List.set_cons_succ]; rfl)))
  iterate 2 (refine rb_want (fun us => rfl) ?_; apply Exists.intro; apply And.intro; (focus (apply rb_pure; (focus (intro b us w h; exact h.off (by decide) (by decide) (by decide))); intro b us W_ hC; go_simp; rfl)); apply Exists.intro; apply And.intro; (focus (intro us; simp only [Act.put, List.setIfInBounds_toArray, List.set_cons_zero, List.set_cons_succ]; rfl)))
  (refine rb_want (fun us => rfl) ⟨undef, rb_store (fun b us W_ hb hon hC => ?_), ?_⟩; (focus (have h7 := hon 7 (by decide) (by decide); obtain ⟨y1, y2⟩ := hC.at h7 hb; obtain ⟨k7, v7⟩ := hcg.out W_ y1; refine ⟨W_.setCell ⟨g, 4, none⟩ (us 7), ?_, hC.put h7 hb⟩; obtain ⟨A9, c9, e9⟩ := Kd.R_slice y2; rw [e9]; first | (go_simp; done) | (go_simp; rfl))); apply Exists.intro; apply And.intro; (focus (intro us; simp only [Act.put, List.setIfInBounds_toArray, List.set_cons_zero, List.set_cons_succ]; rfl)))
  refine rb_done (fun b us W_ hall hC => ?_)
  obtain ⟨W8, hg8, hR8, hat8, hW_⟩ := hC.late (hall 7 (by decide))
  rw [if_pos (hall 10 (by decide))] at hW_
  subst hW_
  try dsimp only
  generalize us 7 = v8 at *
  generalize us 6 = v6 at *
  clear hC hall
  clear us b
  have hMF := hM1.out.app hg8 hR8 hat8
  have hG8 := Aside0.mk (hG1.out.turn hMF.1 hMF.2)
  clear hg8 hR8 hcel hcg hMF hat8
  refine vm_gen _ (fun W_ => GoI w0 W W_ q g W.heap.size (.slice AL q.L.length cL) (.slice AO q.ops.length cO) vW v8 vR (.slice AI q.ops.length cI) (.slice Ao o.length co) (s0, [e0, e1, e2, e3]) o { s with was := s.was ++ [(s0, [e0, e1, e2, e3])] }) hG8.out ?_
  intro W5 hG5
  have hbc := hG5.box W5 (Below.refl _ _)
  obtain ⟨x0, x1, x2, x3, x4⟩ := hbc
  have hIC : Kd.bool.C W5 AI q.ops.length (bitsZ q.ops.length s0) := by
    have y := (Kd.R_reads' hG5.hI).2.2
    rw [bits_len] at y
    exact y
  have hIC5 := Aside0.mk hIC
  replace hG5 := Aside0.mk hG5
  clear hIC hG8 hM1 hI1 ho1 hG1 hgp hbxc
  cases fb with
  | true =>
    have hr2 : Aside0 (r = (1, { was := s.was ++ [(s0, [e0, e1, e2, e3])], tries := s.tries, ord := o })) := ⟨by rw [hr.out, if_pos (of_decide_eq_true hfb.out)]⟩
    go_wp2_with (first | (go_at_call 83; (with_reducible refine (r18_full _ g _ _ _ _ _ _ _ AO AI cO cI q.ops s0 _ _ _ _ (blk_below hG5.out.hM.hk (by repeat (first | exact Below.refl _ _ | apply pw_below_drewN))) (Kd.C_below (Kd.C_below hQ.out.hO hG5.out.hM.hB) (by repeat (first | exact Below.refl _ _ | apply pw_below_drewN))) (Kd.C_below hIC5.out (by repeat (first | exact Below.refl _ _ | apply pw_below_drewN))) hQ.out.n64).mono ?_); rw [hfb.out]; rintro e W6 ⟨rfl, hB6⟩; have hG6 := Aside0.mk (hG5.out.came (below_step (by repeat (first | exact Below.refl _ _ | apply pw_below_drewN)) hB6)); clear hB6) | ((with_reducible refine gate_builtin (b := .append) (xs := #[.tmp 29, .tmp 30]) rfl ?_); at_builtin; refine Kd.R_append_rows (Kd.int .i64) (w0 := w0) w0.heap.size rfl (.tmp 29) (.tmp 30) 56 3 (.int .i64 0) 8 rfl Try.underlying56 or_info3 rfl (by decide) (by omega) _ ([] : List Int) o _ _ _ (fun _ => True) (fun _ => False) rfl rfl (emp_row _ _ hG6.out.hM.hB.size) (Kd.R_reads' (Kd.R_alloc hG6.out.ho _)).2.2 (fun _ _ h => h) (fun _ h => h.elim) (fun _ _ => trivial) (below_alloc hG6.out.hM.hB _) (by have := hG6.out.hM.hB.size; simp; omega) (by have := hol.out; simp; omega) ?_; intro v1 w1 hR hB hg hat; rw [List.nil_append] at hR; obtain ⟨A9, c9, rfl⟩ := Kd.R_slice hR; have hB7 := hg; have hgg := blk_grown (blk_alloc hG6.out.hM.hk _) hg (fun e => Nat.ne_of_lt (blk_lt hG6.out.hM.hk) (Option.some.inj e)); have gc := blk_cell hgg 6; have gf := blk_frozen hgg 6; replace hR := Aside0.mk hR; replace hg := Aside0.mk hg; clear hB hat hB7))
    go_ret
    have hb1 := below_own2 (below_alloc (Below.refl _ _) _) hg.out (fun k hk => Nat.le_of_eq (Option.some.inj hk))
    have hGf := (hG6.out.came hb1).setOrd hR.out
    have e := hr2.out
    exact ⟨by rw [e]; rfl, ⟨_, _, by rw [e]; exact hGf.hM, hGf.hF⟩, fun h => by rw [e] at h; cases h⟩
  | false =>
    have hr2 : Aside0 (rlo q (rgo q d) (s0, [e0, e1, e2, e3]) o q.ops.length 0 { s with was := s.was ++ [(s0, [e0, e1, e2, e3])] } = r) := ⟨by rw [hr.out, if_neg (of_decide_eq_false hfb.out)]⟩
    have hJ0 : Aside0 (RfI q { s with was := s.was ++ [(s0, [e0, e1, e2, e3])] } 1) := ⟨⟨by have := hI0.out.wl; simp; omega, fun x hx => by
      rcases List.mem_append.mp hx with hx | hx
      · exact hI0.out.wp x hx
      · simp at hx; subst hx; exact ⟨hp.out, rfl⟩, hI0.out.tb⟩⟩
    go_wp2_with (first | (go_at_call 83; (with_reducible refine (r18_full _ g _ _ _ _ _ _ _ AO AI cO cI q.ops s0 _ _ _ _ (blk_below hG5.out.hM.hk (by repeat (first | exact Below.refl _ _ | apply pw_below_drewN))) (Kd.C_below (Kd.C_below hQ.out.hO hG5.out.hM.hB) (by repeat (first | exact Below.refl _ _ | apply pw_below_drewN))) (Kd.C_below hIC5.out (by repeat (first | exact Below.refl _ _ | apply pw_below_drewN))) hQ.out.n64).mono ?_); rw [hfb.out]; rintro e W6 ⟨rfl, hB6⟩; have hG6 := Aside0.mk (hG5.out.came (below_step (by repeat (first | exact Below.refl _ _ | apply pw_below_drewN)) hB6)); clear hB6))
    clear hIC5 hG5 hr
    go_loopg [7] q.ops.length (fun kk v7 W_ => ∃ (i : Nat) (s' : RfS) (vW' vR' : Value), v7 = .int .i64 i ∧ Aside0 (kk + i = q.ops.length) ∧ Aside0 (rlo q (rgo q d) (s0, [e0, e1, e2, e3]) o kk i s' = r) ∧ Aside0 (GoI w0 W W_ q g W.heap.size (.slice AL q.L.length cL) (.slice AO q.ops.length cO) vW vW' vR' (.slice AI q.ops.length cI) (.slice Ao o.length co) (s0, [e0, e1, e2, e3]) o s') ∧ Aside0 (RfI q s' 1) ∧ Aside0 (s.tries ≤ s'.tries))
    case atStart => exact ⟨0, _, _, _, rfl, ⟨by omega⟩, hr2, ⟨hG6.out.came (by repeat (first | exact Below.refl _ _ | apply pw_below_drewN))⟩, hJ0, ⟨Nat.le_refl _⟩⟩
    case round =>
      obtain ⟨i, s', vW', vR', rfl, hki, hrl, hG, hJ, htr⟩ := hrel
      have hcc := hG.out.hM.cells wr (Below.refl _ _)
      obtain ⟨c0, c1, c2, c3, c4, c7⟩ := hcc
      clear hr2 hJ0 hG6
      cases gk with
      | zero =>
        obtain rfl : i = q.ops.length := by have := hki.out; omega
        have hlt : decide ((q.ops.length : Int) < (q.ops.length : Int)) = false := decide_eq_false (by omega)
        go_wp2
        go_ret
        have e : r = (0, s') := hrl.out.symm
        exact ⟨by rw [e]; rfl, ⟨_, _, by rw [e]; exact hG.out.hM, hG.out.hF⟩, fun _ => by rw [e]; exact ⟨hJ.out, htr.out⟩⟩
      | succ j =>
        have hi : Aside0 (i < q.ops.length) := ⟨by have := hki.out; omega⟩
        have hlt : decide ((i : Int) < (q.ops.length : Int)) = true := decide_eq_true (by have := hi.out; omega)
        have hltn : i < q.ops.length := hi.out
        have hbc := hG.out.box wr (Below.refl _ _)
        obtain ⟨x0, x1, x2, x3, x4⟩ := hbc
        have hIC : Kd.bool.C wr AI q.ops.length (bitsZ q.ops.length s0) := by
          have y := (Kd.R_reads' hG.out.hI).2.2
          rw [bits_len] at y
          exact y
        replace hIC := Aside0.mk hIC
        obtain ⟨bf, hbf⟩ : ∃ b, freeZ q.ops s0 i = b := ⟨_, rfl⟩
        have hrl2 := hrl.out
        rw [rlo] at hrl2
        dsimp only at hrl2
        rw [hbf] at hrl2
        replace hbf := Aside0.mk hbf
        cases bf with
        | false =>
          rw [if_pos rfl] at hrl2
          replace hrl2 := Aside0.mk hrl2
          go_wp2_with (first | (go_at_call 84; (with_reducible refine (r18_free _ g _ _ _ _ _ _ _ AO AI cO cI q.ops s0 _ _ _ _ i hi.out (blk_below hG.out.hM.hk (by repeat (first | exact Below.refl _ _ | apply pw_below_drewN))) (Kd.C_below (Kd.C_below hQ.out.hO hG.out.hM.hB) (by repeat (first | exact Below.refl _ _ | apply pw_below_drewN))) (Kd.C_below hIC.out (by repeat (first | exact Below.refl _ _ | apply pw_below_drewN))) hQ.out.n64).mono ?_); rw [hbf.out]; rintro e W7 ⟨rfl, hB7⟩; have hG7 := Aside0.mk (hG.out.came (below_step (by repeat (first | exact Below.refl _ _ | apply pw_below_drewN)) hB7)); have hcc := hG7.out.hM.cells W7 (Below.refl _ _); obtain ⟨d0_, d1_, d2_, d3_, d4_, d7_⟩ := hcc; clear hB7))
          go_roundg j
          case measure => omega
          case rel => exact ⟨i + 1, s', _, _, by rw [w64 (by have := hi.out; have := hQ.out.n64; omega) (by have := hi.out; have := hQ.out.n64; omega)]; simp, ⟨by have := hki.out; omega⟩, hrl2, hG7, hJ, htr⟩
        | true =>
          rw [if_neg (by simp)] at hrl2
          by_cases htb : (s'.tries : Int) = q.budget
          · rw [if_pos htb] at hrl2
            have htb2 : ((s'.tries : Int) == q.budget) = true := by simpa using htb
            replace hrl2 := Aside0.mk hrl2
            clear htb
            go_wp2_with (first | (go_at_call 84; (with_reducible refine (r18_free _ g _ _ _ _ _ _ _ AO AI cO cI q.ops s0 _ _ _ _ i hi.out (blk_below hG.out.hM.hk (by repeat (first | exact Below.refl _ _ | apply pw_below_drewN))) (Kd.C_below (Kd.C_below hQ.out.hO hG.out.hM.hB) (by repeat (first | exact Below.refl _ _ | apply pw_below_drewN))) (Kd.C_below hIC.out (by repeat (first | exact Below.refl _ _ | apply pw_below_drewN))) hQ.out.n64).mono ?_); rw [hbf.out]; rintro e W7 ⟨rfl, hB7⟩; have hG7 := Aside0.mk (hG.out.came (below_step (by repeat (first | exact Below.refl _ _ | apply pw_below_drewN)) hB7)); have hcc := hG7.out.hM.cells W7 (Below.refl _ _); obtain ⟨d0_, d1_, d2_, d3_, d4_, d7_⟩ := hcc; clear hB7))
            go_quiet (fail)
            go_wp2
            go_ret
            have e : r = (4, s') := hrl2.out.symm
            exact ⟨by rw [e]; rfl, ⟨_, _, by rw [e]; exact (hG7.out.came (by repeat (first | exact Below.refl _ _ | apply pw_below_drewN))).hM, (hG7.out.came (by repeat (first | exact Below.refl _ _ | apply pw_below_drewN))).hF⟩, fun h => by rw [e] at h; cases h⟩
          · rw [if_neg htb] at hrl2
            have htb2 : ((s'.tries : Int) == q.budget) = false := by simpa using htb
            have htl : Aside0 ((s'.tries : Int) < q.budget) := ⟨by have := hJ.out.tb; omega⟩
            obtain ⟨rk, rs, rr, ru, hv, h4, _⟩ := vstep_good q.L hQ.out.hc [e0, e1, e2, e3] rfl (rd_T65 q.ops (i : Int)).f1 (rd_T65 q.ops (i : Int)).f2 q.fuel
            obtain ⟨d0, d1, d2, d3, rfl⟩ := four_of h4
            have hinp := hQ.out.hop (i : Int) (by omega) (by have := hi.out; omega)
            obtain ⟨ad, eA, hop7⟩ := op_cells7 hQ.out.hO (i : Int) (by omega) (by have := hi.out; omega)
            cases eA
            simp only [Int.toNat_natCast] at hop7
            obtain ⟨op, hop⟩ : ∃ x, x = rd_T65 q.ops (i : Int) := ⟨_, rfl⟩
            rw [← hop] at hv hrl2 hinp hop7
            rw [hv] at hrl2
            dsimp only at hrl2
            have hind := Aside0.mk (vstep_inR hinp.1 hinp.2 hQ.out.hco hin.out hv)
            have hadl : (ad.add (i * 7)).block < w0.heap.size := World.block_lt_of_cell? _ _ (hop7 w0 (Below.refl _ _)).1
            have n1 : (ad.add (i * 7)).block ≠ g := fun e => by have := hG.out.hM.bg; omega
            have n3 : ∀ k, ad.add (i * 7) ≠ ⟨g, k, none⟩ := fun k e => n1 (by rw [e])
            have n5 : ∀ k, ⟨g, k, none⟩ ≠ ad.add (i * 7) := fun k e => n1 (by rw [← e])
            replace hv := Aside0.mk hv
            replace hrl2 := Aside0.mk hrl2
            replace hinp := Aside0.mk hinp
            replace hop7 := Aside0.mk hop7
            clear htb hadl hop
            go_wp2_with (first | (go_at_call 84; (with_reducible refine (r18_free _ g _ _ _ _ _ _ _ (some ad) AI cO cI q.ops s0 _ _ _ _ i hi.out (blk_below hG.out.hM.hk (by repeat (first | exact Below.refl _ _ | apply pw_below_drewN))) (Kd.C_below (Kd.C_below hQ.out.hO hG.out.hM.hB) (by repeat (first | exact Below.refl _ _ | apply pw_below_drewN))) (Kd.C_below hIC.out (by repeat (first | exact Below.refl _ _ | apply pw_below_drewN))) hQ.out.n64).mono ?_); rw [hbf.out]; rintro e W7 ⟨rfl, hB7⟩; have hG7 := Aside0.mk (hG.out.came (below_step (by repeat (first | exact Below.refl _ _ | apply pw_below_drewN)) hB7)); have hcc := hG7.out.hM.cells W7 (Below.refl _ _); obtain ⟨d0_, d1_, d2_, d3_, d4_, d7_⟩ := hcc; clear hB7))
            go_quiet (fail)
            refine vm_gen _ (fun W_ => GoI w0 W W_ q g W.heap.size (.slice AL q.L.length cL) (.slice (some ad) q.ops.length cO) vW vW' vR' (.slice AI q.ops.length cI) (.slice Ao o.length co) (s0, [e0, e1, e2, e3]) o s') (hG7.out.came (by repeat (first | exact Below.refl _ _ | apply pw_below_drewN))) ?_
            intro W8 hG8
            clear d0_ d1_ d2_ d3_ d4_ d7_
            have hcc := hG8.hM.cells W8 (Below.refl _ _)
            obtain ⟨b0, b1, b2, b3, b4, b7⟩ := hcc
            have z7 := blk_frozen hG8.hM.hk 7
            have hopc := hop7.out W8 hG8.hM.hB
            obtain ⟨o0, o1, o2, o3, o4, o5, o6⟩ := hopc
            replace hG8 := Aside0.mk hG8
            go_wp2
            have ht1 : wrap64 ((s'.tries : Int) + 1) = ((s'.tries + 1 : Nat) : Int) := by rw [w64 (by omega) (by have := htl.out; have := hQ.out.hb; omega)]; rfl
            rw [ht1]
            have hsz8 : (W8.setCell ⟨g, 7, none⟩ (.int .i64 ((s'.tries + 1 : Nat) : Int))).heap.size = W8.heap.size := by simp [World.setCell]
            refine vm_gen _ (fun W_ => GoI w0 W W_ q g W.heap.size (.slice AL q.L.length cL) (.slice (some ad) q.ops.length cO) vW vW' vR' (.slice AI q.ops.length cI) (.slice Ao o.length co) (s0, [e0, e1, e2, e3]) o { s' with tries := s'.tries + 1 } ∧ W_.heap[W8.heap.size]? = some (opO op)) ⟨(hG8.out.setTries (s'.tries + 1)).came (below_alloc (Below.refl _ _) _), by rw [← hsz8]; exact blk_new _ _⟩ ?_
            rintro WX ⟨hGX, hoX⟩
            obtain ⟨b8, hb8⟩ : ∃ b, b = W8.heap.size := ⟨_, rfl⟩
            rw [← hb8] at hoX
            rw [← hb8]
            have hcel : Aside0 (∀ W_ : World, Below WX.heap.size WX W_ → (W_.cell? ⟨g, 0, none⟩ = some (.slice AL q.L.length cL) ∧ W_.cell? ⟨g, 1, none⟩ = some (.int .i64 q.fuel)) ∧ (W_.cell? ⟨W.heap.size, 1, none⟩ = some (.int .i64 e0) ∧ W_.cell? ⟨W.heap.size, 2, none⟩ = some (.int .i64 e1) ∧ W_.cell? ⟨W.heap.size, 3, none⟩ = some (.int .i64 e2) ∧ W_.cell? ⟨W.heap.size, 4, none⟩ = some (.int .i64 e3)) ∧ W_.cell? ⟨b8, 1, none⟩ = some (.int .i64 op.f1) ∧ W_.cell? ⟨b8, 2, none⟩ = some (.int .i64 op.f2)) := ⟨fun W_ h => by
              obtain ⟨z0, z1, _⟩ := hGX.hM.cells W_ h
              obtain ⟨_, y1, y2, y3, y4⟩ := hGX.box W_ h
              obtain ⟨p1, p2, _⟩ := opO_cells hoX W_ h
              exact ⟨⟨z0, z1⟩, ⟨y1, y2, y3, y4⟩, p1, p2⟩⟩
            have hin' := hin.out
            simp only [List.mem_cons, List.not_mem_nil, or_false, forall_eq_or_imp, forall_eq] at hin'
            have hstep : Aside0 (∀ W_ : World, Below WX.heap.size WX W_ → Calls Try.prog 28 #[.slice AL q.L.length cL, .agg #[.int .i64 e0, .int .i64 e1, .int .i64 e2, .int .i64 e3], .int .i64 op.f1, .int .i64 op.f2, .int .i64 q.fuel] W_ fun e w' => e = .returned (.agg #[.int .i64 rk, .int .i64 d0, .int .i64 d1, .int .i64 d2, .int .i64 d3, .int .i64 rr, .int .i64 ru]) ∧ Below W_.heap.size W_ w') := ⟨fun W_ h =>
              rf_Step4 AL cL q.L W_ (Kd.C_below (Kd.C_below hQ.out.hL hGX.hM.hB) h) hQ.out.hcL (thru q.L).2.1 (by rw [r15_Check q.L hQ.out.L3, hQ.out.hc]) e0 e1 e2 e3 op.f1 op.f2 q.fuel rk d0 d1 d2 d3 rr ru hin'.1 hin'.2.1 hin'.2.2.1 hin'.2.2.2 hinp.out.1 hinp.out.2 hQ.out.hco hv.out hQ.out.hf⟩
            have hocel := Aside0.mk (fun W_ h => opO_cells hoX W_ h)
            have hJ1 : Aside0 (RfI q { s' with tries := s'.tries + 1 } 0) := ⟨⟨by have := hJ.out.wl; show s'.was.length ≤ s'.tries + 1 + 0; omega, hJ.out.wp, by have := htl.out; show ((s'.tries + 1 : Nat) : Int) ≤ _; omega⟩⟩
            have htr1 : Aside0 (s.tries ≤ s'.tries + 1) := ⟨by have := htr.out; omega⟩
            replace hGX := Aside0.mk hGX
            clear hoX hG8 hsz8 hb8 ht1 hG7 hin'
            refine region_by (fun b us W_ => OneC WX 15 16 stepZ (stepO rk d0 d1 d2 d3 rr ru) b us W_) (by kernel_rfl) (by kernel_rfl) ⟨fun _ => undef, OneC.start WX 15 16 _ _ _⟩ ?_
            iterate 3 (refine rb_want (fun us => rfl) ?_; apply Exists.intro; apply And.intro; (focus (apply rb_pure; (focus (intro b us w h; exact h.off (by decide) (by decide))); intro b us W_ hC; go_simp; rfl)); apply Exists.intro; apply And.intro; (focus (intro us; simp only [Act.put, List.setIfInBounds_toArray, List.set_cons_zero, List.set_cons_succ]; rfl)))
            (refine rb_want (fun us => rfl) ?_; apply Exists.intro; apply And.intro; (focus (apply rb_pure; (focus (intro b us w h; exact h.off (by decide) (by decide))); intro b us W_ hC; have y := hcel.out W_ hC.hB; obtain ⟨⟨y0, y1⟩, ⟨y2, y3, y4, y5⟩, y6, y7⟩ := y; go_simp; rfl)); apply Exists.intro; apply And.intro; (focus (intro us; simp only [Act.put, List.setIfInBounds_toArray, List.set_cons_zero, List.set_cons_succ]; rfl)))
            (refine rb_want (fun us => rfl) ?_; apply Exists.intro; apply And.intro; (focus (apply rb_pure; (focus (intro b us w h; exact h.off (by decide) (by decide))); intro b us W_ hC; go_simp; rfl)); apply Exists.intro; apply And.intro; (focus (intro us; simp only [Act.put, List.setIfInBounds_toArray, List.set_cons_zero, List.set_cons_succ]; rfl)))
            (refine rb_want (fun us => rfl) ?_; apply Exists.intro; apply And.intro; (focus (apply rb_pure; (focus (intro b us w h; exact h.off (by decide) (by decide))); intro b us W_ hC; have y := hcel.out W_ hC.hB; obtain ⟨⟨y0, y1⟩, ⟨y2, y3, y4, y5⟩, y6, y7⟩ := y; go_simp; rfl)); apply Exists.intro; apply And.intro; (focus (intro us; simp only [Act.put, List.setIfInBounds_toArray, List.set_cons_zero, List.set_cons_succ]; rfl)))
            (refine rb_want (fun us => rfl) ?_; apply Exists.intro; apply And.intro; (focus (apply rb_pure; (focus (intro b us w h; exact h.off (by decide) (by decide))); intro b us W_ hC; go_simp; rfl)); apply Exists.intro; apply And.intro; (focus (intro us; simp only [Act.put, List.setIfInBounds_toArray, List.set_cons_zero, List.set_cons_succ]; rfl)))
            (refine rb_want (fun us => rfl) ?_; apply Exists.intro; apply And.intro; (focus (apply rb_pure; (focus (intro b us w h; exact h.off (by decide) (by decide))); intro b us W_ hC; have y := hcel.out W_ hC.hB; obtain ⟨⟨y0, y1⟩, ⟨y2, y3, y4, y5⟩, y6, y7⟩ := y; go_simp; rfl)); apply Exists.intro; apply And.intro; (focus (intro us; simp only [Act.put, List.setIfInBounds_toArray, List.set_cons_zero, List.set_cons_succ]; rfl)))
            (refine rb_want (fun us => rfl) ?_; apply Exists.intro; apply And.intro; (focus (apply rb_pure; (focus (intro b us w h; exact h.off (by decide) (by decide))); intro b us W_ hC; go_simp; rfl)); apply Exists.intro; apply And.intro; (focus (intro us; simp only [Act.put, List.setIfInBounds_toArray, List.set_cons_zero, List.set_cons_succ]; rfl)))
            (refine rb_want (fun us => rfl) ?_; apply Exists.intro; apply And.intro; (focus (apply rb_pure; (focus (intro b us w h; exact h.off (by decide) (by decide))); intro b us W_ hC; have y := hcel.out W_ hC.hB; obtain ⟨⟨y0, y1⟩, ⟨y2, y3, y4, y5⟩, y6, y7⟩ := y; go_simp; rfl)); apply Exists.intro; apply And.intro; (focus (intro us; simp only [Act.put, List.setIfInBounds_toArray, List.set_cons_zero, List.set_cons_succ]; rfl)))
            iterate 3 (refine rb_want (fun us => rfl) ?_; apply Exists.intro; apply And.intro; (focus (apply rb_pure; (focus (intro b us w h; exact h.off (by decide) (by decide))); intro b us W_ hC; go_simp; rfl)); apply Exists.intro; apply And.intro; (focus (intro us; simp only [Act.put, List.setIfInBounds_toArray, List.set_cons_zero, List.set_cons_succ]; rfl)))
            (refine rb_want (fun us => rfl) ?_; apply Exists.intro; apply And.intro; (focus (apply rb_pure; (focus (intro b us w h; exact h.off (by decide) (by decide))); intro b us W_ hC; have y := hcel.out W_ hC.hB; obtain ⟨⟨y0, y1⟩, ⟨y2, y3, y4, y5⟩, y6, y7⟩ := y; go_simp; rfl)); apply Exists.intro; apply And.intro; (focus (intro us; simp only [Act.put, List.setIfInBounds_toArray, List.set_cons_zero, List.set_cons_succ]; rfl)))
            (refine rb_want (fun us => rfl) ⟨.agg #[.int .i64 rk, .int .i64 d0, .int .i64 d1, .int .i64 d2, .int .i64 d3, .int .i64 rr, .int .i64 ru], rb_call (f := 28) (args := fun us => #[.slice AL q.L.length cL, .agg #[.int .i64 e0, .int .i64 e1, .int .i64 e2, .int .i64 e3], .int .i64 op.f1, .int .i64 op.f2, .int .i64 q.fuel]) (fun us W_ => ?_) (fun b us W_ hb hon hC => ?_), ?_⟩; (focus (exact rb_enters Try.func28 (by kernel_rfl) rfl (by rfl) W_)); (focus (refine (hstep.out W_ hC.hB).mono ?_; rintro e w1 ⟨rfl, hbw⟩; exact ⟨rfl, (hC.came hbw).off (by decide) (by decide)⟩)); apply Exists.intro; apply And.intro; (focus (intro us; simp only [Act.put, List.setIfInBounds_toArray, List.set_cons_zero, List.set_cons_succ]; rfl)))
            (refine rb_open (fun us => rfl) (rb_new (fun b us W_ hb hon hC => ⟨.pointer (some ⟨W_.heap.size, 0, none⟩), W_.alloc stepZ, ?_, ?_⟩)) ?_; (focus (first | (go_simp; done) | (go_simp; rfl))); (focus (exact hC.new (by decide) hb)); apply Exists.intro; apply And.intro; (focus (intro us; simp only [Act.put, List.setIfInBounds_toArray, List.set_cons_zero, List.set_cons_succ]; rfl)))
            (refine rb_want (fun us => rfl) ⟨undef, rb_store (fun b us W_ hb hon hC => ?_), ?_⟩; (focus (obtain ⟨gs, eg, hg, hbk⟩ := hC.at (hon 15 (by decide) (by decide)) hb; refine ⟨stepPut W_ gs rk d0 d1 d2 d3 rr ru, ?_, hC.put (by decide) (hon 15 (by decide) (by decide)) eg hg (vm_bel7 hC.hB hg) (vm_out7 hbk)⟩; unfold stepZ at hbk; have k0 := blk_cell hbk 0; have v0 := blk_frozen hbk 0; have k1 := blk_cell hbk 1; have v1 := blk_frozen hbk 1; have k2 := blk_cell hbk 2; have v2 := blk_frozen hbk 2; have k3 := blk_cell hbk 3; have v3 := blk_frozen hbk 3; have k4 := blk_cell hbk 4; have v4 := blk_frozen hbk 4; have k5 := blk_cell hbk 5; have v5 := blk_frozen hbk 5; have k6 := blk_cell hbk 6; have v6 := blk_frozen hbk 6; simp only [List.getElem?_toArray, List.getElem?_cons_zero, List.getElem?_cons_succ] at k0 k1 k2 k3 k4 k5 k6; rw [eg]; clear hbk; unfold stepPut; first | (go_simp; done) | (go_simp; rfl))); apply Exists.intro; apply And.intro; (focus (intro us; simp only [Act.put, List.setIfInBounds_toArray, List.set_cons_zero, List.set_cons_succ]; rfl)))
            refine rb_done (fun b us WS hall hC => ?_)
            obtain ⟨gx, ex, hgx, hbk⟩ := hC.done (hall 15 (by decide)) (hall 16 (by decide))
            have hB3 := Aside0.mk hC.hB
            have hsb := Aside0.mk (step_cells hbk)
            try dsimp only
            rw [ex]
            clear ex hC hall hbk
            clear us b
            have hGS := Aside0.mk (hGX.out.came hB3.out)
            have hs := hsb.out WS (Below.refl _ _)
            obtain ⟨h0, h1, h2, h3, h4_, h5, h6⟩ := hs
            have hoc := hocel.out WS hB3.out
            obtain ⟨p1, p2, p3, p4⟩ := hoc
            have hJ2 : Aside0 (RfI q { s' with tries := s'.tries + 1 } 1) := ⟨⟨Nat.le_succ_of_le hJ1.out.wl, hJ1.out.wp, hJ1.out.tb⟩⟩
            have hrl3 := hrl2.out
            by_cases c3 : rk = 3
            · rw [if_pos c3] at hrl3
              have c3b : (rk == 3) = true := by simpa using c3
              replace hrl3 := Aside0.mk hrl3
              clear c3
              go_wp2
              go_ret
              have e : r = (3, { s' with tries := s'.tries + 1 }) := hrl3.out.symm
              exact ⟨by rw [e]; rfl, ⟨_, _, by rw [e]; exact hGS.out.hM, hGS.out.hF⟩, fun h => by rw [e] at h; cases h⟩
            rw [if_neg c3] at hrl3
            have c3b : (rk == 3) = false := by simpa using c3
            clear c3
            have hcont : Aside0 ((rk ≠ 1 ∨ (op.f3 = true ∧ rr ≠ op.f4)) → rlo q (rgo q d) (s0, [e0, e1, e2, e3]) o j (i + 1) { s' with tries := s'.tries + 1 } = r) := ⟨fun h => by rw [if_pos h] at hrl3; exact hrl3⟩
            have hgo : Aside0 (¬ (rk ≠ 1 ∨ (op.f3 = true ∧ rr ≠ op.f4)) → (if (s0 ||| 2 ^ i, [d0, d1, d2, d3]) ∈ s'.was then rlo q (rgo q d) (s0, [e0, e1, e2, e3]) o j (i + 1) { s' with tries := s'.tries + 1 } else if (rgo q d (s0 ||| 2 ^ i, [d0, d1, d2, d3]) (o ++ [(i : Int)]) { s' with tries := s'.tries + 1 }).1 ≠ 0 then rgo q d (s0 ||| 2 ^ i, [d0, d1, d2, d3]) (o ++ [(i : Int)]) { s' with tries := s'.tries + 1 } else rlo q (rgo q d) (s0, [e0, e1, e2, e3]) o j (i + 1) (rgo q d (s0 ||| 2 ^ i, [d0, d1, d2, d3]) (o ++ [(i : Int)]) { s' with tries := s'.tries + 1 }).2) = r) := ⟨fun h => by rw [if_neg h] at hrl3; exact hrl3⟩
            clear hrl3
            by_cases c1 : rk = 1
            rotate_left
            · have c1b : (rk != 1) = true := by simpa using c1
              have hnx := Aside0.mk (hcont.out (.inl c1))
              clear c1
              go_wp2
              go_roundg j
              case measure => omega
              case rel => exact ⟨i + 1, { s' with tries := s'.tries + 1 }, _, _, by rw [w64 (by have := hi.out; have := hQ.out.n64; omega) (by have := hi.out; have := hQ.out.n64; omega)]; simp, ⟨by have := hki.out; omega⟩, hnx, hGS, hJ2, htr1⟩
            have c1b : (rk != 1) = false := by simpa using c1
            by_cases c5 : op.f3 = true ∧ rr ≠ op.f4
            · have hnx := Aside0.mk (hcont.out (.inr c5))
              obtain ⟨hd3, c4⟩ := c5
              rw [hd3] at p3
              have c4b : (rr != op.f4) = true := by simpa using c4
              clear c1 hd3 c4
              go_wp2
              go_roundg j
              case measure => omega
              case rel => exact ⟨i + 1, { s' with tries := s'.tries + 1 }, _, _, by rw [w64 (by have := hi.out; have := hQ.out.n64; omega) (by have := hi.out; have := hQ.out.n64; omega)]; simp, ⟨by have := hki.out; omega⟩, hnx, hGS, hJ2, htr1⟩
            have hgo2 := Aside0.mk (hgo.out (fun h => by rcases h with h | h; exact h c1; exact c5 h))
            have hpr : op.f3 = false ∨ (op.f3 = true ∧ (rr != op.f4) = false) := by
              cases hd3 : op.f3 with
              | false => exact .inl rfl
              | true => exact .inr ⟨rfl, by simpa using fun e => c5 ⟨hd3, e⟩⟩
            clear c1 c5
            rcases hpr with hd3 | ⟨hd3, c4b⟩
            all_goals
              rw [hd3] at p3
              clear hd3
              have hbld := pl_bld
              have hICS : Aside0 (Kd.bool.C WS AI q.ops.length (bitsZ q.ops.length s0)) := ⟨by
                have y := (Kd.R_reads' hGS.out.hI).2.2
                rw [bits_len] at y
                exact y⟩
              have hbxS := hGS.out.box (WS.alloc (.cells #[.slice none 0 0, .int .i64 d0, .int .i64 d1, .int .i64 d2, .int .i64 d3] 125)) (below_alloc (Below.refl _ _) _)
              obtain ⟨xb0, _, _, _, _⟩ := hbxS
              have hbn : W.heap.size ≠ WS.heap.size := Nat.ne_of_lt (blk_lt hGS.out.hbx)
              have hi8 := hi.out
              have hszB : Aside0 ((WS.alloc (.cells #[.slice none 0 0, .int .i64 d0, .int .i64 d1, .int .i64 d2, .int .i64 d3] 125)).heap.size = WS.heap.size + 1) := ⟨by simp only [World.alloc, Array.size_push]⟩
              have q0 : 0 ≤ (i : Int) := by omega
              have q1 : (i : Int) < (q.ops.length : Int) := by omega
              go_wp2_with (first | ((with_reducible refine gate_builtin (b := .append) (xs := #[.tmp 111, .tmp 113]) rfl ?_); at_builtin; refine Kd.R_append_rows Kd.bool (w0 := (WS.alloc (.cells #[.slice none 0 0, .int .i64 d0, .int .i64 d1, .int .i64 d2, .int .i64 d3] 125))) (WS.alloc (.cells #[.slice none 0 0, .int .i64 d0, .int .i64 d1, .int .i64 d2, .int .i64 d3] 125)).heap.size rfl (.tmp 111) (.tmp 113) 123 4 (.bool false) 1 rfl Try.underlying123 bool_info rfl (by decide) (by omega) (.slice none 0 0) ([] : List Bool) (bitsZ q.ops.length s0) _ _ _ (fun _ => True) (fun _ => False) rfl rfl (Kd.R_nil _ _ _ _ (fun _ => True)) (Kd.C_alloc hICS.out _) (fun _ _ h => h) (fun _ h => h.elim) (fun _ _ => trivial) (Below.refl _ _) (Nat.le_refl _) (by have := hQ.out.n64; simp; omega) ?_; intro v1 w1 hR hBr hg_ hat_; clear hg_ hat_; rw [List.nil_append] at hR; obtain ⟨gq, cq, eq_, hgqb, _, ⟨cur, hcur⟩⟩ := Kd.R_form hR (by rw [bits_len]; omega); rw [bits_len] at eq_; subst eq_; have hRq := hR; have hz := Kd.at_bool (Kd.R_reads' hR).2.2 (i : Int) q0 (by rw [bits_len]; exact q1); obtain ⟨ad3, e3, zq⟩ := hz; cases e3; rw [bits_rd s0 hi.out, Int.toNat_natCast, addr_at] at zq; have zf := blk_frozen hcur i; have ngq : gq ≠ WS.heap.size := (by have := hszB.out; omega); have ngq2 : WS.heap.size ≠ gq := (fun e => ngq e.symm); have hb1_ := blk_below (blk_new WS (.cells #[.slice none 0 0, .int .i64 d0, .int .i64 d1, .int .i64 d2, .int .i64 d3] 125)) hBr; have zb := blk_cell hb1_ 0; have zbf := blk_frozen hb1_ 0; simp only [List.getElem?_toArray, List.getElem?_cons_zero] at zb; replace hgqb := Aside0.mk hgqb; replace hBr := Aside0.mk hBr; replace hRq := Aside0.mk hRq; clear hR hb1_ hcur))
              have hBq : Aside0 (Below WS.heap.size WS ((w1.setCell ⟨WS.heap.size, 0, none⟩ (.slice (some ⟨gq, 0, none⟩) q.ops.length cq)).setCell ⟨gq, i, none⟩ (.bool true))) := ⟨below_set (below_set (below_step (below_alloc (Below.refl _ _) _) hBr.out) (Nat.le_refl _)) (by have := hgqb.out; have := hszB.out; omega)⟩
              have hbq0 := blk_below (blk_new WS (.cells #[.slice none 0 0, .int .i64 d0, .int .i64 d1, .int .i64 d2, .int .i64 d3] 125)) hBr.out
              have hbq1 := blk_put hbq0 0 (.slice (some ⟨gq, 0, none⟩) q.ops.length cq) rfl
              have hbq2 := blk_far (p := ⟨gq, i, none⟩) hbq1 (fun e => ngq e.symm) (.bool true)
              have hRq1 := Kd.R_set hRq.out hbq0 (by decide) 0 (.slice (some ⟨gq, 0, none⟩) q.ops.length cq)
              have hRq2 := (Kd.R_putg (enc := Value.bool) hRq1 (i : Int) true).1
              rw [Int.toNat_natCast, bits_set s0 hi.out] at hRq2
              have hRq3 := Kd.R_lower hRq2 (show w0.heap.size ≤ (WS.alloc (.cells #[.slice none 0 0, .int .i64 d0, .int .i64 d1, .int .i64 d2, .int .i64 d3] 125)).heap.size from Nat.le_trans hGS.out.hM.hB.size (below_alloc (Below.refl _ _) _).size)
              refine vm_gen _ (fun W_ => GoI w0 W W_ q g W.heap.size (.slice AL q.L.length cL) (.slice (some ad) q.ops.length cO) vW vW' vR' (.slice AI q.ops.length cI) (.slice Ao o.length co) (s0, [e0, e1, e2, e3]) o { s' with tries := s'.tries + 1 } ∧ W_.heap[WS.heap.size]? = some (Obj.cells (plC (.slice (some ⟨gq, 0, none⟩) q.ops.length cq) (s0 ||| 2 ^ i, [d0, d1, d2, d3])).toArray 125 (0, 0)) ∧ Kd.bool.R 4 W_ w0.heap.size (fun _ => True) (.slice (some ⟨gq, 0, none⟩) q.ops.length cq) (bitsZ q.ops.length (s0 ||| 2 ^ i))) ⟨hGS.out.came hBq.out, hbq2, hRq3⟩ ?_
              rintro WQ ⟨hGQ, hbQ, hIQ⟩
              obtain ⟨b10, hb10⟩ : ∃ b, b = WS.heap.size := ⟨_, rfl⟩
              rw [← hb10] at hbQ
              rw [← hb10]
              obtain ⟨AW, cW, rfl⟩ := Kd.R_slice hGQ.hM.hW
              have hWC := Aside0.mk (Kd.R_reads' hGQ.hM.hW).2.2
              have hIQC : Aside0 (Kd.bool.C WQ (some ⟨gq, 0, none⟩) q.ops.length (bitsZ q.ops.length (s0 ||| 2 ^ i))) := ⟨by
                have y := (Kd.R_reads' hIQ).2.2
                rw [bits_len] at y
                exact y⟩
              replace hIQ := Aside0.mk hIQ
              replace hGQ := Aside0.mk hGQ
              replace hbQ := Aside0.mk hbQ
              have hzl : Aside0 (s0 ||| 2 ^ i < 2 ^ q.ops.length) := ⟨or_lt hp.out hi.out⟩
              clear hBq hbq0 hbq1 hbq2 hRq hRq1 hRq2 hRq3 hBr hgqb hb10 hICS hbld xb0 hbn ngq ngq2 zq zf hGS hsb h0 h1 h2 h3 h4_ h5 h6 p1 p2 p3 p4 hGX hcel hocel hstep
              go_loopg [11, 12] s'.was.length (fun kk v11 v12 W_ => ∃ k : Nat, v11 = .bool (decide ((s0 ||| 2 ^ i, [d0, d1, d2, d3]) ∈ s'.was.take k)) ∧ v12 = .int .i64 k ∧ Aside0 (kk + k = s'.was.length) ∧ Aside0 (Below WQ.heap.size WQ W_))
              case atStart => exact ⟨0, by simp, rfl, ⟨by omega⟩, ⟨by repeat (first | exact Below.refl _ _ | apply pw_below_drewN)⟩⟩
              case round =>
                obtain ⟨k, rfl, rfl, hkk, hBW⟩ := hrel
                have hGW := Aside0.mk (hGQ.out.came hBW.out)
                obtain ⟨b0_, b1_, b2_, b3_, b4_, b7_⟩ := hGW.out.hM.cells wr (Below.refl _ _)
                cases gk with
                | succ j2 =>
                  have hk : Aside0 (k < s'.was.length) := ⟨by have := hkk.out; omega⟩
                  have hlt2 : decide ((k : Int) < (s'.was.length : Int)) = true := decide_eq_true (by have := hk.out; omega)
                  have hltk : k < s'.was.length := hk.out
                  obtain ⟨ad2, AI2, c2_, pk, eW, hpk, hCk, hyk⟩ := pl_at (Kd.C_below hWC.out hBW.out) k hk.out
                  cases eW
                  have hwp := hJ1.out.wp pk (List.mem_of_getElem? hpk)
                  have hstp : decide ((s0 ||| 2 ^ i, [d0, d1, d2, d3]) ∈ s'.was.take (k + 1)) = (decide ((s0 ||| 2 ^ i, [d0, d1, d2, d3]) ∈ s'.was.take k) || decide (pk = (s0 ||| 2 ^ i, [d0, d1, d2, d3]))) := by
                    rw [List.take_add_one, hpk]
                    simp only [Option.toList_some, List.mem_append, List.mem_singleton, Bool.decide_or]
                    congr 1
                    exact decide_eq_decide.mpr ⟨fun e => e.symm, fun e => e.symm⟩
                  have hsm := place_eq hwp.2 (s0 ||| 2 ^ i) d0 d1 d2 d3
                  obtain ⟨bq, hbq⟩ : ∃ b, b = decide (pk = (s0 ||| 2 ^ i, [d0, d1, d2, d3])) := ⟨_, rfl⟩
                  obtain ⟨bm, hbm⟩ : ∃ b, b = decide ((s0 ||| 2 ^ i, [d0, d1, d2, d3]) ∈ s'.was.take k) := ⟨_, rfl⟩
                  rw [← hbq] at hsm hstp
                  rw [← hbm] at hstp
                  rw [← hbm]
                  have hsame : Aside0 (∀ W_ : World, Below wr.heap.size wr W_ → Calls Try.prog 85 #[.agg #[.slice AI2 q.ops.length c2_, .int .i64 (rdOf 0 pk.2 0), .int .i64 (rdOf 0 pk.2 1), .int .i64 (rdOf 0 pk.2 2), .int .i64 (rdOf 0 pk.2 3)], .agg #[.slice (some ⟨gq, 0, none⟩) q.ops.length cq, .int .i64 d0, .int .i64 d1, .int .i64 d2, .int .i64 d3]] W_ fun e w' => e = .returned (.bool bq) ∧ Below W_.heap.size W_ w') := ⟨fun W_ h => by
                    have y := r18_same W_ AI2 (some ⟨gq, 0, none⟩) c2_ cq q.ops.length pk.1 (s0 ||| 2 ^ i) (rdOf 0 pk.2 0) (rdOf 0 pk.2 1) (rdOf 0 pk.2 2) (rdOf 0 pk.2 3) d0 d1 d2 d3 (Kd.C_below hCk h) (Kd.C_below (Kd.C_below hIQC.out hBW.out) h) hQ.out.n64 hwp.1 hzl.out
                    rw [hsm] at y
                    exact y⟩
                  obtain ⟨y0, y1, y2, y3, y4⟩ := hyk
                  have hyc : Aside0 (∀ W_ : World, Below wr.heap.size wr W_ → (W_.cell? ⟨g, 4, none⟩ = some (.slice (some ad2) s'.was.length cW)) ∧ (W_.cell? (ad2.add (k * 5)) = some (.slice AI2 q.ops.length c2_) ∧ W_.cell? ⟨(ad2.add (k * 5)).block, (ad2.add (k * 5)).off + 1, none⟩ = some (.int .i64 (rdOf 0 pk.2 0)) ∧ W_.cell? ⟨(ad2.add (k * 5)).block, (ad2.add (k * 5)).off + 2, none⟩ = some (.int .i64 (rdOf 0 pk.2 1)) ∧ W_.cell? ⟨(ad2.add (k * 5)).block, (ad2.add (k * 5)).off + 3, none⟩ = some (.int .i64 (rdOf 0 pk.2 2)) ∧ W_.cell? ⟨(ad2.add (k * 5)).block, (ad2.add (k * 5)).off + 4, none⟩ = some (.int .i64 (rdOf 0 pk.2 3))) ∧ (W_.cell? ⟨b10, 0, none⟩ = some (.slice (some ⟨gq, 0, none⟩) q.ops.length cq) ∧ W_.cell? ⟨b10, 1, none⟩ = some (.int .i64 d0) ∧ W_.cell? ⟨b10, 2, none⟩ = some (.int .i64 d1) ∧ W_.cell? ⟨b10, 3, none⟩ = some (.int .i64 d2) ∧ W_.cell? ⟨b10, 4, none⟩ = some (.int .i64 d3))) := ⟨fun W_ h => by
                    have h2 := blk_below (blk_below hbQ.out hBW.out) h
                    exact ⟨(hGW.out.hM.cells W_ h).2.2.2.2.1, ⟨(h.cell (World.block_lt_of_cell? _ _ y0)).trans y0, (h.cell (World.block_lt_of_cell? _ _ y1)).trans y1, (h.cell (World.block_lt_of_cell? _ _ y2)).trans y2, (h.cell (World.block_lt_of_cell? _ _ y3)).trans y3, (h.cell (World.block_lt_of_cell? _ _ y4)).trans y4⟩, blk_cell h2 0, blk_cell h2 1, blk_cell h2 2, blk_cell h2 3, blk_cell h2 4⟩⟩
                  have hqk : Aside0 (0 ≤ (k : Int) ∧ (k : Int) < (s'.was.length : Int) ∧ k < s'.was.length) := ⟨by have := hk.out; omega⟩
                  have hwl2 : Aside0 (s'.was.length ≤ 1073741826) := ⟨by have := hJ.out.wl; have := hJ.out.tb; have := hQ.out.hb; omega⟩
                  clear y0 y1 y2 y3 y4 hsm hpk hCk hwp hbq hbm
                  cases bm with
                  | true =>
                    rw [Bool.true_or] at hstp
                    replace hstp := Aside0.mk hstp
                    go_wp2
                    refine region_by (fun b us W_ => Below wr.heap.size wr W_) (by kernel_rfl) (by kernel_rfl) ⟨fun _ => undef, below_drew (Below.refl _ _)⟩ ?_
                    iterate 2 (refine rb_want (fun us => rfl) ?_; apply Exists.intro; apply And.intro; (focus (apply rb_pure; (focus (intro b us w h; exact h)); intro b us W_ hC; go_simp; rfl)); apply Exists.intro; apply And.intro; (focus (intro us; simp only [Act.put, List.setIfInBounds_toArray, List.set_cons_zero, List.set_cons_succ]; rfl)))
                    iterate 9 (refine rb_skip (fun us => rfl) (fun b us w h => by exact h) ?_; apply Exists.intro; apply And.intro; (focus (intro us; simp only [Act.put, List.setIfInBounds_toArray, List.set_cons_zero, List.set_cons_succ]; rfl)))
                    iterate 2 (refine rb_want (fun us => rfl) ?_; apply Exists.intro; apply And.intro; (focus (apply rb_pure; (focus (intro b us w h; exact h)); intro b us W_ hC; go_simp; rfl)); apply Exists.intro; apply And.intro; (focus (intro us; simp only [Act.put, List.setIfInBounds_toArray, List.set_cons_zero, List.set_cons_succ]; rfl)))
                    refine rb_done (fun b us W8_ hall hC => ?_)
                    have hB8 := Aside0.mk hC
                    clear hC hall
                    try dsimp only
                    clear us b
                    go_wp2
                    go_roundg j2
                    case measure => omega
                    case rel => exact ⟨k + 1, by rw [hstp.out], by rw [w64 (by have := hk.out; have := hwl2.out; omega) (by have := hk.out; have := hwl2.out; omega)]; simp, ⟨by have := hkk.out; omega⟩, ⟨below_step hBW.out hB8.out⟩⟩
                  | false =>
                    rw [Bool.false_or] at hstp
                    replace hstp := Aside0.mk hstp
                    go_wp2
                    refine region_by (fun b us W_ => Below wr.heap.size wr W_) (by kernel_rfl) (by kernel_rfl) ⟨fun _ => undef, below_drew (Below.refl _ _)⟩ ?_
                    iterate 5 (refine rb_want (fun us => rfl) ?_; apply Exists.intro; apply And.intro; (focus (apply rb_pure; (focus (intro b us w h; exact h)); intro b us W_ hC; go_simp; rfl)); apply Exists.intro; apply And.intro; (focus (intro us; simp only [Act.put, List.setIfInBounds_toArray, List.set_cons_zero, List.set_cons_succ]; rfl)))
                    (refine rb_want (fun us => rfl) ?_; apply Exists.intro; apply And.intro; (focus (apply rb_pure; (focus (intro b us w h; exact h)); intro b us W_ hC; have y := hyc.out W_ hC; obtain ⟨y0, ⟨y1, y2, y3, y4, y5⟩, ⟨y6, y7, y8, y9, y10⟩⟩ := y; go_simp; rfl)); apply Exists.intro; apply And.intro; (focus (intro us; simp only [Act.put, List.setIfInBounds_toArray, List.set_cons_zero, List.set_cons_succ]; rfl)))
                    (refine rb_want (fun us => rfl) ?_; apply Exists.intro; apply And.intro; (focus (apply rb_pure; (focus (intro b us w h; exact h)); intro b us W_ hC; go_simp; rfl)); apply Exists.intro; apply And.intro; (focus (intro us; simp only [Act.put, List.setIfInBounds_toArray, List.set_cons_zero, List.set_cons_succ]; rfl)))
                    (refine rb_want (fun us => rfl) ?_; apply Exists.intro; apply And.intro; (focus (apply rb_pure; (focus (intro b us w h; exact h)); intro b us W_ hC; have qq := hqk.out; obtain ⟨qa, qb, qc⟩ := qq; go_simp; rfl)); apply Exists.intro; apply And.intro; (focus (intro us; simp only [Act.put, List.setIfInBounds_toArray, List.set_cons_zero, List.set_cons_succ]; rfl)))
                    iterate 2 (refine rb_want (fun us => rfl) ?_; apply Exists.intro; apply And.intro; (focus (apply rb_pure; (focus (intro b us w h; exact h)); intro b us W_ hC; have y := hyc.out W_ hC; obtain ⟨y0, ⟨y1, y2, y3, y4, y5⟩, ⟨y6, y7, y8, y9, y10⟩⟩ := y; go_simp; rfl)); apply Exists.intro; apply And.intro; (focus (intro us; simp only [Act.put, List.setIfInBounds_toArray, List.set_cons_zero, List.set_cons_succ]; rfl)))
                    (refine rb_want (fun us => rfl) ⟨.bool bq, rb_call (f := 85) (args := fun us => #[.agg #[.slice AI2 q.ops.length c2_, .int .i64 (rdOf 0 pk.2 0), .int .i64 (rdOf 0 pk.2 1), .int .i64 (rdOf 0 pk.2 2), .int .i64 (rdOf 0 pk.2 3)], .agg #[.slice (some ⟨gq, 0, none⟩) q.ops.length cq, .int .i64 d0, .int .i64 d1, .int .i64 d2, .int .i64 d3]]) (fun us W_ => ?_) (fun b us W_ hb hon hC => ?_), ?_⟩; (focus (exact rb_enters Try.func85 (by kernel_rfl) rfl (by rfl) W_)); (focus (refine (hsame.out W_ hC).mono ?_; rintro e w1 ⟨rfl, hbw⟩; exact ⟨rfl, below_step hC hbw⟩)); apply Exists.intro; apply And.intro; (focus (intro us; simp only [Act.put, List.setIfInBounds_toArray, List.set_cons_zero, List.set_cons_succ]; rfl)))
                    iterate 2 (refine rb_want (fun us => rfl) ?_; apply Exists.intro; apply And.intro; (focus (apply rb_pure; (focus (intro b us w h; exact h)); intro b us W_ hC; go_simp; rfl)); apply Exists.intro; apply And.intro; (focus (intro us; simp only [Act.put, List.setIfInBounds_toArray, List.set_cons_zero, List.set_cons_succ]; rfl)))
                    refine rb_done (fun b us W8_ hall hC => ?_)
                    have hB8 := Aside0.mk hC
                    clear hC hall
                    try dsimp only
                    clear us b
                    go_wp2
                    go_roundg j2
                    case measure => omega
                    case rel => exact ⟨k + 1, by rw [hstp.out], by rw [w64 (by have := hk.out; have := hwl2.out; omega) (by have := hk.out; have := hwl2.out; omega)]; simp, ⟨by have := hkk.out; omega⟩, ⟨below_step hBW.out hB8.out⟩⟩
                | zero =>
                  obtain rfl : k = s'.was.length := by have := hkk.out; omega
                  rw [List.take_length]
                  have hlt2 : decide ((s'.was.length : Int) < (s'.was.length : Int)) = false := decide_eq_false (by omega)
                  obtain ⟨bm, hbm⟩ : ∃ b, b = decide ((s0 ||| 2 ^ i, [d0, d1, d2, d3]) ∈ s'.was) := ⟨_, rfl⟩
                  rw [← hbm]
                  have hgo3 := hgo2.out
                  cases bm with
                  | true =>
                    rw [if_pos (of_decide_eq_true hbm.symm)] at hgo3
                    have hnx := Aside0.mk hgo3
                    clear hbm hgo3
                    go_wp2
                    go_roundg j
                    case measure => omega
                    case rel => exact ⟨i + 1, { s' with tries := s'.tries + 1 }, _, _, by rw [w64 (by have := hi.out; have := hQ.out.n64; omega) (by have := hi.out; have := hQ.out.n64; omega)]; simp, ⟨by have := hki.out; omega⟩, hnx, hGW, hJ2, htr1⟩
                  | false =>
                    rw [if_neg (of_decide_eq_false hbm.symm)] at hgo3
                    obtain ⟨oi, hoi⟩ : ∃ x, x = o ++ [(i : Int)] := ⟨_, rfl⟩
                    rw [← hoi] at hgo3
                    obtain ⟨r9, hr9⟩ : ∃ x, x = rgo q d (s0 ||| 2 ^ i, [d0, d1, d2, d3]) oi { s' with tries := s'.tries + 1 } := ⟨_, rfl⟩
                    rw [← hr9] at hgo3
                    obtain ⟨kd, s9⟩ := r9
                    have hoil : Aside0 (oi.length ≤ s'.tries + 1 ∧ oi.length = o.length + 1) := ⟨by rw [hoi]; simp; have := hol2.out; have := htr.out; omega⟩
                    have hrem : Aside0 (remZ q.ops.length (s0 ||| 2 ^ i) 0 < d) := ⟨by
                      have y := cnt_or q.ops.length s0 i (free_iff.mp hbf.out).1 hi.out q.ops.length 0 (by omega)
                      rw [if_pos (Nat.zero_le _)] at y
                      have := hd.out
                      omega⟩
                    have hrec : Aside0 (∀ (A9 : Option Addr) (c9 : Nat) (W_ : World), Below WQ.heap.size WQ W_ → (Kd.int .i64).R 3 W_ w0.heap.size (fun _ => True) (.slice A9 oi.length c9) oi → Calls Try.prog 72 #[.pointer (some ⟨g, 0, none⟩), .agg #[.slice (some ⟨gq, 0, none⟩) q.ops.length cq, .int .i64 d0, .int .i64 d1, .int .i64 d2, .int .i64 d3], .slice A9 oi.length c9] W_ fun e w' => e = .returned (.int .i64 kd) ∧ GoR w0 W_ w' q g (.slice AL q.L.length cL) (.slice (some ad) q.ops.length cO) (.slice AW s'.was.length cW) (kd, s9) (s'.tries + 1)) := ⟨fun A9 c9 W_ h h9 => by
                      have y := IH.out (s0 ||| 2 ^ i, [d0, d1, d2, d3]) oi { s' with tries := s'.tries + 1 } W_ (.slice AW s'.was.length cW) vR' (.slice (some ⟨gq, 0, none⟩) q.ops.length cq) (.slice A9 oi.length c9) (hGQ.out.came h).hM ⟨hzl.out, rfl, hind.out, Kd.R_below hIQ.out h, h9, hoil.out.1⟩ hJ1.out hrem.out
                      rw [← hr9] at y
                      exact y⟩
                    have hlit := lit_oneI
                    have hoCw : Aside0 (Kd.C (Kd.int .i64) wr Ao o.length o) := ⟨(Kd.R_reads' hGW.out.ho).2.2⟩
                    have h10w := blk_below hbQ.out hBW.out
                    replace hoi := Aside0.mk hoi
                    clear hbm hr9
                    by_cases ck : kd = 0
                    · subst ck
                      rw [if_neg (by simp)] at hgo3
                      have hnx := Aside0.mk hgo3
                      clear hgo3
                      go_wp2_with (first | ((with_reducible refine gate_builtin (b := .append) (xs := #[.tmp 142, .tmp 143]) rfl ?_); at_builtin; refine Kd.R_append_rows (Kd.int .i64) (w0 := wr) wr.heap.size rfl (.tmp 142) (.tmp 143) 56 3 (.int .i64 0) 8 rfl Try.underlying56 or_info3 rfl (by decide) (by omega) (.slice none 0 0) ([] : List Int) o _ _ _ (fun _ => True) (fun _ => False) rfl rfl (Kd.R_nil _ _ _ _ (fun _ => True)) hoCw.out (fun _ _ h => h) (fun _ h => h.elim) (fun _ _ => trivial) (Below.refl _ wr) (Nat.le_refl _) (by have := hol.out; simp; omega) ?_; intro v1 w1 hR hB hg hat; rw [List.nil_append] at hR; replace hR := Aside0.mk hR; replace hB := Aside0.mk hB; clear hg hat) | ((with_reducible refine gate_builtin (b := .append) (xs := #[.tmp 144, .tmp 146]) rfl ?_); at_builtin; refine Kd.R_append_rows (Kd.int .i64) (w0 := wr) wr.heap.size rfl (.tmp 144) (.tmp 146) 56 3 (.int .i64 0) 8 rfl Try.underlying56 or_info3 rfl (by decide) (by omega) _ o [(i : Int)] _ _ _ (fun _ => True) (fun _ => False) rfl rfl (Kd.R_alloc hR.out _) (lit_oneCI w1 (i : Int)) (fun _ _ h => h) (fun _ h => h.elim) (fun _ _ => trivial) (below_alloc hB.out _) (by have := hB.out.size; simp; omega) (by have := hol.out; simp; omega) ?_; intro v2 w2 hR2 hB2 hg hat; rw [← hoi.out] at hR2; obtain ⟨A9, c9, rfl⟩ := Kd.R_slice hR2; have hbx2 := blk_below h10w hB2; have t0 := blk_cell hbx2 0; have t1 := blk_cell hbx2 1; have t2 := blk_cell hbx2 2; have t3 := blk_cell hbx2 3; have t4 := blk_cell hbx2 4; simp only [plC, List.getElem?_toArray, List.getElem?_cons_zero, List.getElem?_cons_succ] at t0 t1 t2 t3 t4; have t1' : w2.cell? ⟨b10, 1, none⟩ = some (.int .i64 d0) := t1; have t2' : w2.cell? ⟨b10, 2, none⟩ = some (.int .i64 d1) := t2; have t3' : w2.cell? ⟨b10, 3, none⟩ = some (.int .i64 d2) := t3; have t4' : w2.cell? ⟨b10, 4, none⟩ = some (.int .i64 d3) := t4; clear t1 t2 t3 t4 hbx2; replace hR2 := Aside0.mk hR2; replace hB2 := Aside0.mk hB2; clear hg hat) | (go_at_call 72; (with_reducible refine (hrec.out A9 c9 _ (below_step (below_step hBW.out hB2.out) (by repeat (first | exact Below.refl _ _ | apply pw_below_drewN))) (Kd.R_below (Kd.R_lower hR2.out (Nat.le_trans hGW.out.hM.hB.size (Nat.le_refl _))) (by repeat (first | exact Below.refl _ _ | apply pw_below_drewN)))).mono ?_); rintro e W9 ⟨rfl, hres⟩; have hG8_ := Aside0.mk (hGW.out.came (below_step hB2.out (by repeat (first | exact Below.refl _ _ | apply pw_below_drewN)))); obtain ⟨vW9, vR9, hS9, hF9⟩ := hres.ex; replace hS9 := Aside0.mk hS9; replace hF9 := Aside0.mk hF9; replace hres := Aside0.mk hres))
                      have hG9 := Aside0.mk (hG8_.out.turn hS9.out hF9.out)
                      have hok := hres.out.ok rfl
                      have hJ9 : Aside0 (RfI q s9 1) := ⟨hok.1⟩
                      have htr9 : Aside0 (s.tries ≤ s9.tries) := ⟨Nat.le_trans htr1.out hok.2⟩
                      go_roundg j
                      case measure => omega
                      case rel => exact ⟨i + 1, s9, _, _, by rw [w64 (by have := hi.out; have := hQ.out.n64; omega) (by have := hi.out; have := hQ.out.n64; omega)]; simp, ⟨by have := hki.out; omega⟩, hnx, hG9, hJ9, htr9⟩
                    · have ckb : (kd != 0) = true := by simpa using ck
                      rw [if_pos ck] at hgo3
                      replace hgo3 := Aside0.mk hgo3
                      go_wp2_with (first | ((with_reducible refine gate_builtin (b := .append) (xs := #[.tmp 142, .tmp 143]) rfl ?_); at_builtin; refine Kd.R_append_rows (Kd.int .i64) (w0 := wr) wr.heap.size rfl (.tmp 142) (.tmp 143) 56 3 (.int .i64 0) 8 rfl Try.underlying56 or_info3 rfl (by decide) (by omega) (.slice none 0 0) ([] : List Int) o _ _ _ (fun _ => True) (fun _ => False) rfl rfl (Kd.R_nil _ _ _ _ (fun _ => True)) hoCw.out (fun _ _ h => h) (fun _ h => h.elim) (fun _ _ => trivial) (Below.refl _ wr) (Nat.le_refl _) (by have := hol.out; simp; omega) ?_; intro v1 w1 hR hB hg hat; rw [List.nil_append] at hR; replace hR := Aside0.mk hR; replace hB := Aside0.mk hB; clear hg hat) | ((with_reducible refine gate_builtin (b := .append) (xs := #[.tmp 144, .tmp 146]) rfl ?_); at_builtin; refine Kd.R_append_rows (Kd.int .i64) (w0 := wr) wr.heap.size rfl (.tmp 144) (.tmp 146) 56 3 (.int .i64 0) 8 rfl Try.underlying56 or_info3 rfl (by decide) (by omega) _ o [(i : Int)] _ _ _ (fun _ => True) (fun _ => False) rfl rfl (Kd.R_alloc hR.out _) (lit_oneCI w1 (i : Int)) (fun _ _ h => h) (fun _ h => h.elim) (fun _ _ => trivial) (below_alloc hB.out _) (by have := hB.out.size; simp; omega) (by have := hol.out; simp; omega) ?_; intro v2 w2 hR2 hB2 hg hat; rw [← hoi.out] at hR2; obtain ⟨A9, c9, rfl⟩ := Kd.R_slice hR2; have hbx2 := blk_below h10w hB2; have t0 := blk_cell hbx2 0; have t1 := blk_cell hbx2 1; have t2 := blk_cell hbx2 2; have t3 := blk_cell hbx2 3; have t4 := blk_cell hbx2 4; simp only [plC, List.getElem?_toArray, List.getElem?_cons_zero, List.getElem?_cons_succ] at t0 t1 t2 t3 t4; have t1' : w2.cell? ⟨b10, 1, none⟩ = some (.int .i64 d0) := t1; have t2' : w2.cell? ⟨b10, 2, none⟩ = some (.int .i64 d1) := t2; have t3' : w2.cell? ⟨b10, 3, none⟩ = some (.int .i64 d2) := t3; have t4' : w2.cell? ⟨b10, 4, none⟩ = some (.int .i64 d3) := t4; clear t1 t2 t3 t4 hbx2; replace hR2 := Aside0.mk hR2; replace hB2 := Aside0.mk hB2; clear hg hat) | (go_at_call 72; (with_reducible refine (hrec.out A9 c9 _ (below_step (below_step hBW.out hB2.out) (by repeat (first | exact Below.refl _ _ | apply pw_below_drewN))) (Kd.R_below (Kd.R_lower hR2.out (Nat.le_trans hGW.out.hM.hB.size (Nat.le_refl _))) (by repeat (first | exact Below.refl _ _ | apply pw_below_drewN)))).mono ?_); rintro e W9 ⟨rfl, hres⟩; have hG8_ := Aside0.mk (hGW.out.came (below_step hB2.out (by repeat (first | exact Below.refl _ _ | apply pw_below_drewN)))); obtain ⟨vW9, vR9, hS9, hF9⟩ := hres.ex; replace hS9 := Aside0.mk hS9; replace hF9 := Aside0.mk hF9; replace hres := Aside0.mk hres))
                      have hG9 := Aside0.mk (hG8_.out.turn hS9.out hF9.out)
                      go_ret
                      have e : r = (kd, s9) := hgo3.out.symm
                      exact ⟨by rw [e]; rfl, ⟨_, _, by rw [e]; exact hG9.out.hM, hG9.out.hF⟩, fun h => by rw [e] at h; exact absurd h ck⟩
theorem r18_goes {w0 : World} {q : LinQ} {g : Nat} {AL AO : Option Addr} {cL cO : Nat} (hQ : GoQ w0 q AL AO cL cO) : ∀ d, GoesAt w0 q g AL AO cL cO d
  | 0 => fun p o s W vW vR vI vo _ _ _ hd => absurd hd (Nat.not_lt_zero _)
  | d + 1 => r18_goes_step ⟨hQ⟩ d ⟨r18_goes hQ d⟩
end Go.Proofs.Ytddkoimaghcbeaa.PVmSteps
