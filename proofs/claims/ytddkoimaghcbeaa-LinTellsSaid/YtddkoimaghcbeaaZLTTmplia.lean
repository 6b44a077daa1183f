/- A part of what the law LinTells stands on, only as far as it is needed (the words and walks were printed or written in this seat; this text was cut by a program of this session, wip/bin/trim.py). No condition beyond what each theorem says. -/
import Derived.MapKept
import Derived.Maps.OwnSet
import Derived.ChangeKeysEq
import Derived.Test.YtddkoimaghcbeaaZLTPVmStepsx0
import Derived.Test.YtddkoimaghcbeaaZLTPVmStepsx2
import Derived.Test.YtddkoimaghcbeaaZLTPVmStepsx3
import Derived.Test.YtddkoimaghcbeaaZLTPVmStepsx4
import Derived.Test.YtddkoimaghcbeaaZLTPVmStepsx5
import Derived.Test.YtddkoimaghcbeaaZLTPVmStepsx6
import Derived.Test.YtddkoimaghcbeaaZLTTmpvmu
namespace Go.Proofs.Ytddkoimaghcbeaa.PVmSteps
open Go.RowKit Go.Proofs.YtddkoimaghcbeaaW.PrintWords Go.Proofs.YtddkoimaghcbeaaW.PrintLast Go.Proofs.YtddkoimaghcbeaaW.PrintMore
set_option linter.unusedVariables false
set_option linter.unusedSimpArgs false
/-- A kind of rows whose elements' cells are told by a function. -/
def flatK {α : Type} (enc : α → List Value) (n : Nat) (hl : ∀ x, (enc x).length = n) (h1 : ∀ x, ∀ u ∈ enc x, u.oneCell' = true) : Kd α where
  sz := n
  E := []
  K := fun _ x cs => cs = enc x
  M := fun _ _ _ x cs => cs = enc x
  K_len := fun h => by rw [h]; exact hl _
  K_one := fun h u hu => by rw [h] at hu; exact h1 _ u hu
  K_below := fun _ h => h
  K_of_M := fun h => h
  M_mono := fun _ h => h
  M_bound := fun h => h
  M_move := fun _ h => h
  M_lower := fun _ h => h
/-- A set of places and the cells behind them; a frame: a position and the next place. -/
abbrev Ps := Nat × List Int
abbrev Fr := Ps × Nat
def psC (p : Ps) : List Value := [.int .u64 (p.1 : Int), .int .i64 (rdOf 0 p.2 0), .int .i64 (rdOf 0 p.2 1), .int .i64 (rdOf 0 p.2 2), .int .i64 (rdOf 0 p.2 3)]
def psV (p : Ps) : Value := .agg #[.int .u64 (p.1 : Int), .int .i64 (rdOf 0 p.2 0), .int .i64 (rdOf 0 p.2 1), .int .i64 (rdOf 0 p.2 2), .int .i64 (rdOf 0 p.2 3)]
def frC (x : Fr) : List Value := [.int .u64 (x.1.1 : Int), .int .i64 (rdOf 0 x.1.2 0), .int .i64 (rdOf 0 x.1.2 1), .int .i64 (rdOf 0 x.1.2 2), .int .i64 (rdOf 0 x.1.2 3), .int .i64 (x.2 : Int)]
def kFr : Kd Fr := flatK frC 6 (fun _ => rfl) (fun x u hu => by
  simp only [frC, List.mem_cons, List.not_mem_nil, or_false] at hu
  rcases hu with rfl | rfl | rfl | rfl | rfl | rfl <;> rfl)
/-- Blocks of a type stay. -/
def SameT (W W' : World) (t : Nat) : Prop := ∀ (k : Nat) (cells : Array Value), W.heap[k]? = some (Obj.cells cells t (0, 0)) → W'.heap[k]? = W.heap[k]?
theorem SameT.trans {W W1 W2 : World} {t : Nat} (h : SameT W W1 t) (h' : SameT W1 W2 t) : SameT W W2 t := fun k cells hk => by
  have e := h k cells hk
  rw [h' k cells (e.trans hk), e]
theorem SameT.refl (W : World) (t : Nat) : SameT W W t := fun _ _ _ => rfl
theorem SameT.below {W W' : World} (hb : Below W.heap.size W W') (t : Nat) : SameT W W' t := fun k _ hk => hb.block k (blk_lt hk)
theorem SameT.set {W : World} {g t' : Nat} {cells : Array Value} (hg : W.heap[g]? = some (.cells cells t' (0, 0))) {t : Nat} (ht : t ≠ t') (j : Nat) (u : Value) : SameT W (W.setCell ⟨g, j, none⟩ u) t := fun k cs hk => by
  refine Below.heap_setCell _ _ _ _ (fun e => ?_)
  have e : k = g := e
  subst e
  rw [hg] at hk
  injection hk with hk
  injection hk with _ hk
  exact ht hk.symm
theorem SameT.grown {W W' : World} {row : Option Nat} (hg : W.grownBy W' row) {t t' : Nat} (ht : t ≠ t') (hr : ∀ k, row = some k → ∃ cells, W.heap[k]? = some (.cells cells t' (0, 0))) : SameT W W' t := fun k cs hk => by
  refine hg.block k (blk_lt hk) (fun e => ?_)
  obtain ⟨cells, h⟩ := hr k e.symm
  rw [h] at hk
  injection hk with hk
  injection hk with _ hk
  exact ht hk.symm
theorem SameT.map {W W' : World} {b : Nat} (hg : W.grownBy W' (some b)) {es : Array MapEntry} {c : Nat} (hb : W.heap[b]? = some (.map es c)) (t : Nat) : SameT W W' t := fun k cs hk => by
  refine hg.block k (blk_lt hk) (fun e => ?_)
  injection e with e
  subst e
  rw [hb] at hk
  cases hk
theorem Kd.R_same {α : Type} {d : Kd α} {e : Nat} {W W' : World} {base : Nat} {ok : Nat → Prop} {v : Value} {xs : List α} (h : d.R e W base ok v xs) (hs : ∀ q, q ∈ e :: d.E → SameT W W' q) : d.R e W' base ok v xs :=
  Kd.R_mono (Kd.R_move (Kd.R_bound h) (fun k hk => by
    obtain ⟨_, _, _, q, hq, cells, hc⟩ := hk
    exact hs q hq k cells hc)) (fun _ hk => hk.1)
theorem Kd.R_row {α : Type} {d : Kd α} {e : Nat} {W : World} {base : Nat} {ok : Nat → Prop} {v : Value} {xs : List α} (h : d.R e W base ok v xs) : ∀ k, v.ownBlock = some k → ∃ cells, W.heap[k]? = some (.cells cells e (0, 0)) := fun k hk => by
  obtain ⟨inner, ho⟩ := Kd.R_own h
  exact own_typed ho k hk
/-- The map: the keys are the positions that were seen, in the order in which they came. -/
structure SeenM (W : World) (b : Nat) (S : List Ps) : Prop where
  out : ∃ (es : Array MapEntry) (clock : Nat), W.heap[b]? = some (Obj.map es clock) ∧ es.toList.map (fun e => (e.key, e.val)) = S.map (fun p => (psV p, Value.bool true))
theorem SeenM.same {W W' : World} {b : Nat} {S : List Ps} (h : SeenM W b S) (hb : W'.heap[b]? = W.heap[b]?) : SeenM W' b S := by
  obtain ⟨es, c, h1, h2⟩ := h.out
  exact ⟨es, c, hb.trans h1, h2⟩
theorem SeenM.lt {W : World} {b : Nat} {S : List Ps} (h : SeenM W b S) : b < W.heap.size := by
  obtain ⟨es, c, h1, _⟩ := h.out
  exact blk_lt h1
theorem ps_inj {p q : Ps} (hp : p.2.length = 4) (hq : q.2.length = 4) : ((p.1 : Int) == q.1 && (rdOf 0 p.2 0 == rdOf 0 q.2 0 && (rdOf 0 p.2 1 == rdOf 0 q.2 1 && (rdOf 0 p.2 2 == rdOf 0 q.2 2 && (rdOf 0 p.2 3 == rdOf 0 q.2 3))))) = decide (p = q) := by
  obtain ⟨s, cs⟩ := p
  obtain ⟨t, ds⟩ := q
  match cs, hp, ds, hq with
  | [a, b, c, d], _, [a', b', c', d'], _ =>
    rw [Bool.eq_iff_iff]
    simp [rdOf, Prod.ext_iff, Int.ofNat_inj]
theorem eqA_ps (d : Nat) (w : World) (p q : Ps) (hp : p.2.length = 4) (hq : q.2.length = 4) :
    (Op.equalIn (d + 3) 114 (psV p) (psV q)).run Try.prog w = .ok (decide (p = q)) w := by
  rw [← ps_inj hp hq]
  unfold psV
  refine eqA_of Try.underlying114 (by kernel_rfl) ?_
  refine eqf_cons (by rfl) (by go_simp; rfl) (by go_simp; rfl) (by go_simp) ?_
  exact eqf_last (by rfl) (by go_simp) (by go_simp) (eqI24 d w _ _ _ _ _ _ _ _)
theorem ask_ps (w : World) (p : Ps) (hp : p.2.length = 4) : ∀ (es : List MapEntry) (S : List Ps) (i : Nat), es.map (fun e => (e.key, e.val)) = S.map (fun q => (psV q, Value.bool true)) → (∀ q ∈ S, q.2.length = 4) →
    ∃ r, (Instr.findAsking 114 (psV p) es i).run Try.prog w = .ok r w ∧ (p ∈ S → ∃ j, r = some (j, .bool true)) ∧ (p ∉ S → r = none)
  | [], S, i, h, _ => by
    cases S with
    | nil => exact ⟨none, rfl, by simp, fun _ => rfl⟩
    | cons q S => simp at h
  | e :: es, [], i, h, _ => by simp at h
  | e :: es, q :: S, i, h, hS => by
    simp only [List.map_cons, List.cons.injEq, Prod.mk.injEq] at h
    obtain ⟨⟨hk, hv⟩, h⟩ := h
    obtain ⟨r, h1, h2, h3⟩ := ask_ps w p hp es S (i + 1) h (fun x hx => hS x (by simp [hx]))
    have he : (Op.equal 114 (psV p) e.key).run Try.prog w = .ok (decide (p = q)) w := by
      rw [hk]
      exact eqA_ps 9997 w p q hp (hS q (by simp))
    by_cases c : p = q
    · refine ⟨some (i, .bool true), ?_, fun _ => ⟨_, rfl⟩, fun hn => absurd (by simp [c]) hn⟩
      have hd : decide (p = q) = true := decide_eq_true c
      rw [hd] at he
      clear c hd
      simp [Instr.findAsking, he, hv, Result.andThen]
    · have hd : decide (p = q) = false := decide_eq_false c
      rw [hd] at he
      refine ⟨r, ?_, fun hm => h2 ((List.mem_cons.mp hm).resolve_left c), fun hn => h3 (fun hm => hn (by simp [hm]))⟩
      simp [Instr.findAsking, he, h1, Result.andThen]
theorem key_ps (em : Bool) (p : Ps) (w : World) : (Instr.checkKey em 10000 114 (psV p)).run Try.prog w = .ok () w := by
  cases em <;> kernel_rfl
theorem find_ps (w : World) (p : Ps) (hp : p.2.length = 4) (es : List MapEntry) (S : List Ps) (h : es.map (fun e => (e.key, e.val)) = S.map (fun q => (psV q, Value.bool true))) (hS : ∀ q ∈ S, q.2.length = 4) :
    ∃ r, (Instr.findKey 114 (psV p) es).run Try.prog w = .ok r w ∧ (p ∈ S → ∃ j, r = some (j, .bool true)) ∧ (p ∉ S → r = none) := by
  obtain ⟨r, h1, h2⟩ := ask_ps w p hp es S 0 h hS
  refine ⟨r, ?_, h2⟩
  cases es with
  | nil =>
    cases S with
    | nil =>
      obtain rfl := h2.2 (by simp)
      simp [Instr.findKey, run_underlying Try.underlying114, Instr.findNow, Result.andThen]
    | cons q S => simp at h
  | cons e es =>
    simp [Instr.findKey, run_underlying Try.underlying114, Instr.findNow, Instr.sameNow, Result.andThen, h1]
theorem look_ps {W : World} {b : Nat} {S : List Ps} (h : SeenM W b S) (hS : ∀ q ∈ S, q.2.length = 4) (p : Ps) (hp : p.2.length = 4) :
    (Instr.lookup 84 (.map (some b)) (psV p) false).run Try.prog W = .ok (.bool (decide (p ∈ S))) W := by
  obtain ⟨es, c, hb, he⟩ := h.out
  obtain ⟨r, h1, h2, h3⟩ := find_ps W p hp es.toList S he hS
  have hz : (zeroValue 4).run Try.prog W = .ok (.bool false) W := by kernel_rfl
  by_cases hm : p ∈ S
  · obtain ⟨j, rfl⟩ := h2 hm
    simp [Instr.lookup, run_underlying Try.underlying84, MapKept.run_getObj_map hb, key_ps, h1, Result.andThen, hm]
  · obtain rfl := h3 hm
    simp [Instr.lookup, run_underlying Try.underlying84, MapKept.run_getObj_map hb, key_ps, h1, hz, Result.andThen, hm]
theorem put_ps {W : World} {b : Nat} {S : List Ps} (h : SeenM W b S) (hS : ∀ q ∈ S, q.2.length = 4) (p : Ps) (hp : p.2.length = 4) (hm : p ∉ S) :
    ∃ W', (Instr.mapUpdate 84 (.map (some b)) (psV p) (.bool true)).run Try.prog W = .ok () W' ∧ SeenM W' b (S ++ [p]) ∧ W.grownBy W' (some b) ∧ W'.heap.size = W.heap.size := by
  obtain ⟨es, c, hb, he⟩ := h.out
  obtain ⟨r, h1, h2, h3⟩ := find_ps W p hp es.toList S he hS
  obtain rfl := h3 hm
  have hlt := blk_lt hb
  refine ⟨ChangeMaps.setBlock W b (.map (es.push { key := psV p, val := .bool true, born := c }) (c + 1)), ?_, ⟨es.push { key := psV p, val := .bool true, born := c }, c + 1, ?_, ?_⟩, World.mapTurned.grown ⟨_, _, _, _, hb, rfl⟩, by simp [ChangeMaps.setBlock]⟩
  · simp [Instr.mapUpdate, run_underlying Try.underlying84, MapKept.run_getObj_map hb, key_ps, h1, MapKept.run_setObj_map _ hb, Result.andThen, ChangeMaps.setBlock]
  · simp only [ChangeMaps.setBlock, Array.getElem?_setIfInBounds_self, hlt, if_true]
  · simp [he]
theorem clear_ps {W : World} {b : Nat} {S : List Ps} (h : SeenM W b S) :
    ∃ W', (Builtin.clear_ #[84] 0 #[.map (some b)]).run Try.prog W = .ok (.tuple #[]) W' ∧ SeenM W' b [] ∧ W.grownBy W' (some b) ∧ W'.heap.size = W.heap.size := by
  obtain ⟨es, c, hb, he⟩ := h.out
  have hlt := blk_lt hb
  refine ⟨ChangeMaps.setBlock W b (.map #[] c), ?_, ⟨#[], c, ?_, ?_⟩, World.mapTurned.grown ⟨_, _, _, _, hb, rfl⟩, by simp [ChangeMaps.setBlock]⟩
  · simp [Builtin.clear_, run_underlying Try.underlying84, MapKept.run_getObj_map hb, MapKept.run_setObj_map _ hb, Result.andThen, ChangeMaps.setBlock]
  · simp only [ChangeMaps.setBlock, Array.getElem?_setIfInBounds_self, hlt, if_true]
  · simp
end Go.Proofs.Ytddkoimaghcbeaa.PVmSteps
