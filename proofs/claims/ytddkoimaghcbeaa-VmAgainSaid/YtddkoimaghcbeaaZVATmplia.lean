/- A part of what the law VmAgain stands on, only as far as it is needed (the words and walks were printed or written in this seat; this text was cut by a program of this session, wip/bin/trim.py). No condition beyond what each theorem says. -/
import Derived.MapKept
import Derived.Maps.OwnSet
import Derived.ChangeKeysEq
import Derived.Test.YtddkoimaghcbeaaZVAPVmStepsx0
import Derived.Test.YtddkoimaghcbeaaZVAPVmStepsx2
import Derived.Test.YtddkoimaghcbeaaZVAPVmStepsx3
import Derived.Test.YtddkoimaghcbeaaZVAPVmStepsx4
import Derived.Test.YtddkoimaghcbeaaZVAPVmStepsx5
import Derived.Test.YtddkoimaghcbeaaZVATmpvmu
section
namespace Go.Proofs.Ytddkoimaghcbeaa.PVmSteps
open Go.RowKit Go.Proofs.YtddkoimaghcbeaaW.PrintWords Go.Proofs.YtddkoimaghcbeaaW.PrintLast Go.Proofs.YtddkoimaghcbeaaW.PrintMore
set_option linter.unusedVariables false
set_option linter.unusedSimpArgs false
/-- A kind of rows whose elements' cells are told by a function. -/
def flatK {α : Type} (enc : α → List Value) (n : Nat) (hl : ∀ x, (enc x).length = n) (h1 : ∀ x, ∀ u ∈ enc x, u.oneCell' = true) : Kd α where
  sz := n
  E := []
  K := fun _ x cs => cs = enc x
  M := fun _ _ _ x cs => cs = enc x
  K_len := fun h => by rw [h]; exact hl _
  K_one := fun h u hu => by rw [h] at hu; exact h1 _ u hu
  K_below := fun _ h => h
  K_of_M := fun h => h
  M_mono := fun _ h => h
  M_bound := fun h => h
  M_move := fun _ h => h
  M_lower := fun _ h => h
end Go.Proofs.Ytddkoimaghcbeaa.PVmSteps
end
section
namespace Go.Proofs.Ytddkoimaghcbeaa.PVmSteps
open Go.RowKit Go.Proofs.YtddkoimaghcbeaaW.PrintWords Go.Proofs.YtddkoimaghcbeaaW.PrintLast Go.Proofs.YtddkoimaghcbeaaW.PrintMore
set_option linter.unusedVariables false
set_option linter.unusedSimpArgs false
structure ClZ where
  s0 : Int
  s1 : Int
  s2 : Int
  s3 : Int
  kd : Int
  fu : Int
  ar : Int
def clC (x : ClZ) : List Value := [.int .i64 x.s0, .int .i64 x.s1, .int .i64 x.s2, .int .i64 x.s3, .int .i64 x.kd, .int .i64 x.fu, .int .i64 x.ar]
def kCl : Kd ClZ := flatK clC 7 (fun _ => rfl) (fun x u hu => by
  simp only [clC, List.mem_cons, List.not_mem_nil, or_false] at hu
  rcases hu with rfl | rfl | rfl | rfl | rfl | rfl | rfl <;> rfl)
structure StZ where
  k : Int
  s0 : Int
  s1 : Int
  s2 : Int
  s3 : Int
  r : Int
  u : Int
def stC (x : StZ) : List Value := [.int .i64 x.k, .int .i64 x.s0, .int .i64 x.s1, .int .i64 x.s2, .int .i64 x.s3, .int .i64 x.r, .int .i64 x.u]
def kSt : Kd StZ := flatK stC 7 (fun _ => rfl) (fun x u hu => by
  simp only [stC, List.mem_cons, List.not_mem_nil, or_false] at hu
  rcases hu with rfl | rfl | rfl | rfl | rfl | rfl | rfl <;> rfl)
def rdC (l : List ClZ) (i : Int) : ClZ := l.getD i.toNat ⟨0, 0, 0, 0, 0, 0, 0⟩
def rdS (l : List StZ) (i : Int) : StZ := l.getD i.toNat ⟨0, 0, 0, 0, 0, 0, 0⟩
/-- What a call answers. -/
def stepA (L : List S36) (c : ClZ) : StZ := match vstep L [c.s0, c.s1, c.s2, c.s3] c.kd c.ar (fuelZ c.fu) with
  | some (k, s, r, u) => ⟨k, rdOf 0 s 0, rdOf 0 s 1, rdOf 0 s 2, rdOf 0 s 3, r, u⟩
  | none => ⟨0, 0, 0, 0, 0, 0, 0⟩
theorem call_at {w : World} {A : Option Addr} {n : Nat} {xs : List ClZ} (h : Kd.C kCl w A n xs) (i : Int) (h0 : 0 ≤ i) (h1 : i < n) : ∃ ad, A = some ad ∧ w.cell? (ad.add (i.toNat * 7)) = some (.int .i64 (rdC xs i).s0) ∧ w.cell? ⟨(ad.add (i.toNat * 7)).block, (ad.add (i.toNat * 7)).off + 1, none⟩ = some (.int .i64 (rdC xs i).s1) ∧ w.cell? ⟨(ad.add (i.toNat * 7)).block, (ad.add (i.toNat * 7)).off + 2, none⟩ = some (.int .i64 (rdC xs i).s2) ∧ w.cell? ⟨(ad.add (i.toNat * 7)).block, (ad.add (i.toNat * 7)).off + 3, none⟩ = some (.int .i64 (rdC xs i).s3) ∧ w.cell? ⟨(ad.add (i.toNat * 7)).block, (ad.add (i.toNat * 7)).off + 4, none⟩ = some (.int .i64 (rdC xs i).kd) ∧ w.cell? ⟨(ad.add (i.toNat * 7)).block, (ad.add (i.toNat * 7)).off + 5, none⟩ = some (.int .i64 (rdC xs i).fu) ∧ w.cell? ⟨(ad.add (i.toNat * 7)).block, (ad.add (i.toNat * 7)).off + 6, none⟩ = some (.int .i64 (rdC xs i).ar) := by
  obtain ⟨ad, c, e, _, hK, hc0⟩ := Kd.C_get h ⟨0, 0, 0, 0, 0, 0, 0⟩ i h0 h1
  have hc : ∀ j u, c[j]? = some u → w.cell? (ad.add (i.toNat * 7 + j)) = some u := hc0
  obtain rfl : c = clC (rdC xs i) := hK
  exact ⟨ad, e, hc 0 _ rfl, by rw [← add_field _ _ 1 (by omega)]; exact hc 1 _ rfl, by rw [← add_field _ _ 2 (by omega)]; exact hc 2 _ rfl, by rw [← add_field _ _ 3 (by omega)]; exact hc 3 _ rfl, by rw [← add_field _ _ 4 (by omega)]; exact hc 4 _ rfl, by rw [← add_field _ _ 5 (by omega)]; exact hc 5 _ rfl, by rw [← add_field _ _ 6 (by omega)]; exact hc 6 _ rfl⟩
theorem step_at {w : World} {A : Option Addr} {n : Nat} {xs : List StZ} (h : Kd.C kSt w A n xs) (i : Int) (h0 : 0 ≤ i) (h1 : i < n) : ∃ ad, A = some ad ∧ w.cell? (ad.add (i.toNat * 7)) = some (.int .i64 (rdS xs i).k) ∧ w.cell? ⟨(ad.add (i.toNat * 7)).block, (ad.add (i.toNat * 7)).off + 1, none⟩ = some (.int .i64 (rdS xs i).s0) ∧ w.cell? ⟨(ad.add (i.toNat * 7)).block, (ad.add (i.toNat * 7)).off + 2, none⟩ = some (.int .i64 (rdS xs i).s1) ∧ w.cell? ⟨(ad.add (i.toNat * 7)).block, (ad.add (i.toNat * 7)).off + 3, none⟩ = some (.int .i64 (rdS xs i).s2) ∧ w.cell? ⟨(ad.add (i.toNat * 7)).block, (ad.add (i.toNat * 7)).off + 4, none⟩ = some (.int .i64 (rdS xs i).s3) ∧ w.cell? ⟨(ad.add (i.toNat * 7)).block, (ad.add (i.toNat * 7)).off + 5, none⟩ = some (.int .i64 (rdS xs i).r) ∧ w.cell? ⟨(ad.add (i.toNat * 7)).block, (ad.add (i.toNat * 7)).off + 6, none⟩ = some (.int .i64 (rdS xs i).u) := by
  obtain ⟨ad, c, e, _, hK, hc0⟩ := Kd.C_get h ⟨0, 0, 0, 0, 0, 0, 0⟩ i h0 h1
  have hc : ∀ j u, c[j]? = some u → w.cell? (ad.add (i.toNat * 7 + j)) = some u := hc0
  obtain rfl : c = stC (rdS xs i) := hK
  exact ⟨ad, e, hc 0 _ rfl, by rw [← add_field _ _ 1 (by omega)]; exact hc 1 _ rfl, by rw [← add_field _ _ 2 (by omega)]; exact hc 2 _ rfl, by rw [← add_field _ _ 3 (by omega)]; exact hc 3 _ rfl, by rw [← add_field _ _ 4 (by omega)]; exact hc 4 _ rfl, by rw [← add_field _ _ 5 (by omega)]; exact hc 5 _ rfl, by rw [← add_field _ _ 6 (by omega)]; exact hc 6 _ rfl⟩
theorem stepA_is {L : List S36} (hc : (thru L).2.2 = 0) (c : ClZ) : vstep L [c.s0, c.s1, c.s2, c.s3] c.kd c.ar (fuelZ c.fu) = some ((stepA L c).k, [(stepA L c).s0, (stepA L c).s1, (stepA L c).s2, (stepA L c).s3], (stepA L c).r, (stepA L c).u) := by
  obtain ⟨rk, rs, rr, ru, hv, h4, _⟩ := vstep_good L hc [c.s0, c.s1, c.s2, c.s3] rfl c.kd c.ar (fuelZ c.fu)
  obtain ⟨d0, d1, d2, d3, rfl⟩ := four_of h4
  unfold stepA
  rw [hv]
  rfl
theorem step_atW {w : World} {A : Option Addr} {n : Nat} {xs : List StZ} (h : Kd.C kSt w A n xs) (i : Int) (h0 : 0 ≤ i) (h1 : i < n) : ∃ ad, A = some ad ∧ ∀ W_ : World, Below w.heap.size w W_ → (W_.cell? (ad.add (i.toNat * 7)) = some (.int .i64 (rdS xs i).k) ∧ W_.cell? ⟨(ad.add (i.toNat * 7)).block, (ad.add (i.toNat * 7)).off + 1, none⟩ = some (.int .i64 (rdS xs i).s0) ∧ W_.cell? ⟨(ad.add (i.toNat * 7)).block, (ad.add (i.toNat * 7)).off + 2, none⟩ = some (.int .i64 (rdS xs i).s1) ∧ W_.cell? ⟨(ad.add (i.toNat * 7)).block, (ad.add (i.toNat * 7)).off + 3, none⟩ = some (.int .i64 (rdS xs i).s2) ∧ W_.cell? ⟨(ad.add (i.toNat * 7)).block, (ad.add (i.toNat * 7)).off + 4, none⟩ = some (.int .i64 (rdS xs i).s3) ∧ W_.cell? ⟨(ad.add (i.toNat * 7)).block, (ad.add (i.toNat * 7)).off + 5, none⟩ = some (.int .i64 (rdS xs i).r) ∧ W_.cell? ⟨(ad.add (i.toNat * 7)).block, (ad.add (i.toNat * 7)).off + 6, none⟩ = some (.int .i64 (rdS xs i).u)) := by
  obtain ⟨ad, e, x0, x1, x2, x3, x4, x5, x6⟩ := step_at h i h0 h1
  exact ⟨ad, e, fun W_ hb => ⟨(hb.cell (World.block_lt_of_cell? w _ x0)).trans x0, (hb.cell (World.block_lt_of_cell? w _ x1)).trans x1, (hb.cell (World.block_lt_of_cell? w _ x2)).trans x2, (hb.cell (World.block_lt_of_cell? w _ x3)).trans x3, (hb.cell (World.block_lt_of_cell? w _ x4)).trans x4, (hb.cell (World.block_lt_of_cell? w _ x5)).trans x5, (hb.cell (World.block_lt_of_cell? w _ x6)).trans x6⟩⟩
end Go.Proofs.Ytddkoimaghcbeaa.PVmSteps
end
