/- A part of what the law LinBegins stands on, only as far as it is needed (the words and walks were printed or written in this seat; this text was cut by a program of this session, wip/bin/trim.py). No condition beyond what each theorem says. -/
import Derived.Test.YtddkoimaghcbeaaZLGPVmStepsx0
import Derived.Test.YtddkoimaghcbeaaZLGPVmStepsx2
import Derived.Test.YtddkoimaghcbeaaZLGPVmStepsx3
import Derived.Test.YtddkoimaghcbeaaZLGPVmStepsx4
import Derived.Test.YtddkoimaghcbeaaZLGPVmStepsx5
import Derived.Test.YtddkoimaghcbeaaZLGTmplir
import Derived.Test.YtddkoimaghcbeaaZLGTmplbp
namespace Go.Proofs.Ytddkoimaghcbeaa.PVmSteps
open Go.RowKit Go.Proofs.YtddkoimaghcbeaaW.PrintWords Go.Proofs.YtddkoimaghcbeaaW.PrintLast Go.Proofs.YtddkoimaghcbeaaW.PrintMore
set_option linter.unusedVariables false
set_option linter.unusedSimpArgs false
set_option maxRecDepth 100000
/-- Events, one by one: which are open, how many calls there were. -/
def hist_Check.z : List S129 → Nat → Int → List Bool → Int × Int
  | [], _, _, _ => (0, 0)
  | x :: l, i, c, xs =>
    if x.f0 < 0 ∨ 16 ≤ x.f0 ∨ x.f2 < 0 ∨ 16 ≤ x.f2 ∨ (x.f1 = false ∧ x.f2 ≠ 0) then ((i : Int), 2)
    else if x.f1 = true ∧ c = 64 then ((i : Int), 5)
    else if x.f1 = rdOf false xs x.f0 then ((i : Int), 20)
    else hist_Check.z l (i + 1) (if x.f1 = true then c + 1 else c) (xs.set x.f0.toNat x.f1)
def hist_Check.f (l0 : List S129) : Option (Int × Int) := some (hist_Check.z l0 0 0 (List.replicate 16 false))
/-- The local row of bools, whole in its block. -/
structure Opn (w W : World) (xs : List Bool) : Prop where
  hB : Below w.heap.size w W
  hg : W.heap[w.heap.size]? = some (.cells (xs.map Value.bool).toArray 150 (0, 0))
  hl : xs.length = 16
theorem Opn.came {w W W' : World} {xs : List Bool} (h : Opn w W xs) (hb : Below W.heap.size W W') : Opn w W' xs := ⟨below_step h.hB hb, blk_below h.hg hb, h.hl⟩
theorem Opn.cell {w W : World} {xs : List Bool} (h : Opn w W xs) (c : Int) (h0 : 0 ≤ c) (h1 : c < 16) : W.cell? ⟨w.heap.size, c.toNat, none⟩ = some (.bool (rdOf false xs c)) ∧ W.frozen? ⟨w.heap.size, c.toNat, none⟩ = false := by
  refine ⟨?_, blk_frozen h.hg _⟩
  rw [blk_cell h.hg]
  have : c.toNat < xs.length := by rw [h.hl]; omega
  simp [rdOf, List.getElem?_eq_getElem this]
theorem Opn.set {w W : World} {xs : List Bool} (h : Opn w W xs) (c : Int) (v : Bool) : Opn w (W.setCell ⟨w.heap.size, c.toNat, none⟩ (.bool v)) (xs.set c.toNat v) :=
  ⟨below_set h.hB (Nat.le_refl _), blk_put h.hg _ _ (by simp), by simp [h.hl]⟩
theorem hist_drop (l : List S129) (i : Nat) (h : i < l.length) : l.drop i = rd_T129 l i :: l.drop (i + 1) := by
  rw [List.drop_eq_getElem_cons h]; congr 1; simp [rd_T129, List.getElem?_eq_getElem h]
theorem w64_h {i : Int} (h1 : -9223372036854775808 ≤ i) (h2 : i ≤ 9223372036854775807) : wrap64 i = i := by unfold wrap64; omega
set_option maxHeartbeats 8000000 in
theorem hist_Check.calls (A0 : Option Addr) (c0 : Nat) (l0 : List S129) (r1 r2 : Int) (w : World) (hr0 : Kd.C k129 w A0 l0.length l0) (hc0 : l0.length ≤ c0) (h : hist_Check.f l0 = some (r1, r2)) :
    Calls Try.prog 73 #[.slice A0 l0.length c0] w fun e w' => e = .returned (.tuple #[.int .i64 r1, .int .i64 r2]) ∧ Below w.heap.size w w' := by
  have huE := Try.underlying129
  replace h := Aside0.mk (Option.some.inj h)
  go_enter Try.func73, Try.ntmps73
  go_wp2
  go_loopg [5, 10] l0.length (fun k v5 v10 W => ∃ (i : Nat) (c : Int) (xs : List Bool), v5 = .int .i64 c ∧ v10 = .int .i64 i ∧ Aside0 (k + i = l0.length) ∧ Aside0 (hist_Check.z (l0.drop i) i c xs = (r1, r2)) ∧ 0 ≤ c ∧ c ≤ i ∧ i ≤ l0.length ∧ Opn w W xs)
  case atStart => exact ⟨0, 0, List.replicate 16 false, rfl, rfl, ⟨Nat.add_zero _⟩, h, by omega, by omega, by omega, below_alloc (Below.refl _ _) _, blk_new w _, rfl⟩
  case round =>
    obtain ⟨i, c, xs, rfl, rfl, hk, hz, hc, hci, hin, hI⟩ := hrel
    have hm := Kd.C_max hr0
    by_cases hil : (i : Int) < (l0.length : Int)
    · have p0 : (0 : Int) ≤ (i : Int) := Int.natCast_nonneg i
      obtain ⟨j, rfl⟩ : ∃ j, gk = j + 1 := ⟨gk - 1, by have := hk.out; omega⟩
      obtain ⟨ad, rfl, hy0, hy1, hy2, hy3⟩ := at_T129 (Kd.C_below hr0 hI.hB) (i : Int) p0 hil
      simp only [Int.toNat_natCast] at hy0 hy1 hy2 hy3
      have hrr := hz.out
      rw [hist_drop l0 i (by omega)] at hrr
      unfold hist_Check.z at hrr
      have hwi : wrap64 ((i : Int) + 1) = (i : Int) + 1 := w64_h (by omega) (by omega)
      have hwc : wrap64 (c + 1) = c + 1 := w64_h (by omega) (by omega)
      clear h hz hm
      generalize (rd_T129 l0 i).f0 = cl at *
      generalize (rd_T129 l0 i).f1 = ca at *
      generalize (rd_T129 l0 i).f2 = op at *
      generalize (rd_T129 l0 i).f3 = va at *
      have hbx := blk_new wr (.cells #[.int .i64 cl, .bool ca, .int .i64 op, .int .i64 va] 129)
      have b0 := blk_cell hbx 0
      have b1 := blk_cell hbx 1
      have b2 := blk_cell hbx 2
      have b3 := blk_cell hbx 3
      have hJ := hI.came (below_alloc (Below.refl _ _) (.cells #[.int .i64 cl, .bool ca, .int .i64 op, .int .i64 va] 129))
      simp only [List.getElem?_toArray, List.getElem?_cons_zero, List.getElem?_cons_succ] at b0 b1 b2 b3
      clear hbx
      have n1 : w.heap.size ≠ wr.heap.size := Nat.ne_of_lt (blk_lt hI.hg)
      have n2 : wr.heap.size ≠ w.heap.size := fun e => n1 e.symm
      by_cases cA : cl < 0
      · rw [if_pos (.inl cA)] at hrr
        obtain ⟨rfl, rfl⟩ : (i : Int) = r1 ∧ (2 : Int) = r2 := by simpa using hrr
        clear hrr
        have cA' := eq_true cA
        go_wp2
        go_ret2
        exact ⟨rfl, hJ.hB⟩
      have cA' : (cl < 0) = False := eq_false cA
      by_cases cB : 16 ≤ cl
      · rw [if_pos (.inr (.inl cB))] at hrr
        obtain ⟨rfl, rfl⟩ : (i : Int) = r1 ∧ (2 : Int) = r2 := by simpa using hrr
        clear hrr
        have cB' := eq_true cB
        go_wp2
        go_ret2
        exact ⟨rfl, hJ.hB⟩
      have cB' : (16 ≤ cl) = False := eq_false cB
      by_cases cC : op < 0
      · rw [if_pos (.inr (.inr (.inl cC)))] at hrr
        obtain ⟨rfl, rfl⟩ : (i : Int) = r1 ∧ (2 : Int) = r2 := by simpa using hrr
        clear hrr
        have cC' := eq_true cC
        go_wp2
        go_ret2
        exact ⟨rfl, hJ.hB⟩
      have cC' : (op < 0) = False := eq_false cC
      by_cases cD : 16 ≤ op
      · rw [if_pos (.inr (.inr (.inr (.inl cD))))] at hrr
        obtain ⟨rfl, rfl⟩ : (i : Int) = r1 ∧ (2 : Int) = r2 := by simpa using hrr
        clear hrr
        have cD' := eq_true cD
        go_wp2
        go_ret2
        exact ⟨rfl, hJ.hB⟩
      have cD' : (16 ≤ op) = False := eq_false cD
      obtain ⟨o1, o2⟩ := hJ.cell cl (by omega) (by omega)
      have p1 : 0 ≤ cl := by omega
      have p2 : cl < 16 := by omega
      cases ca with
      | false =>
        by_cases cE : op = 0
        · subst cE
          rw [if_neg (by simp [cA, cB]), if_neg (by simp)] at hrr
          cases hx : rdOf false xs cl with
          | false =>
            rw [hx] at hrr o1
            rw [if_pos rfl] at hrr
            obtain ⟨rfl, rfl⟩ : (i : Int) = r1 ∧ (20 : Int) = r2 := by simpa using hrr
            clear hrr
            go_wp2
            go_quiet (fail)
            go_wp2
            go_ret2
            exact ⟨rfl, pw_below_drewN hJ.hB _⟩
          | true =>
            rw [hx] at hrr o1
            rw [if_neg (by simp), if_neg (by simp)] at hrr
            replace hrr := Aside0.mk hrr
            go_wp2
            go_quiet (fail)
            go_wp2
            go_roundg j
            case measure => omega
            case rel => exact ⟨i + 1, c, xs.set cl.toNat false, (by first | rfl | rw [hwc]), (by first | rfl | (rw [hwi]; rfl)), ⟨by have := hk.out; omega⟩, hrr, by omega, by omega, by omega, (hJ.came (pw_below_drewN (Below.refl _ _) _)).set cl false⟩
        · rw [if_pos (.inr (.inr (.inr (.inr ⟨rfl, cE⟩))))] at hrr
          obtain ⟨rfl, rfl⟩ : (i : Int) = r1 ∧ (2 : Int) = r2 := by simpa using hrr
          clear hrr
          have cE' : (op != 0) = true := by simpa using cE
          go_wp2
          go_ret2
          exact ⟨rfl, hJ.hB⟩
      | true =>
        rw [if_neg (by simp [cA, cB, cC, cD])] at hrr
        by_cases cF : c = 64
        · subst cF
          rw [if_pos ⟨rfl, rfl⟩] at hrr
          obtain ⟨rfl, rfl⟩ : (i : Int) = r1 ∧ (5 : Int) = r2 := by simpa using hrr
          clear hrr
          go_wp2
          go_ret2
          exact ⟨rfl, hJ.hB⟩
        have cF' : (c == 64) = false := by simpa using cF
        rw [if_neg (by simp [cF])] at hrr
        cases hx : rdOf false xs cl with
        | true =>
          rw [hx] at hrr o1
          rw [if_pos rfl] at hrr
          obtain ⟨rfl, rfl⟩ : (i : Int) = r1 ∧ (20 : Int) = r2 := by simpa using hrr
          clear hrr
          go_wp2
          go_quiet (fail)
          go_wp2
          go_ret2
          exact ⟨rfl, pw_below_drewN hJ.hB _⟩
        | false =>
          rw [hx] at hrr o1
          rw [if_neg (by simp), if_pos rfl] at hrr
          replace hrr := Aside0.mk hrr
          go_wp2
          go_quiet (fail)
          go_wp2
          go_roundg j
          case measure => omega
          case rel => exact ⟨i + 1, c + 1, xs.set cl.toNat true, (by first | rfl | rw [hwc]), (by first | rfl | (rw [hwi]; rfl)), ⟨by have := hk.out; omega⟩, hrr, by omega, by omega, by omega, (hJ.came (pw_below_drewN (Below.refl _ _) _)).set cl true⟩
    · obtain rfl : i = l0.length := by omega
      have hrr := hz.out
      rw [List.drop_of_length_le (Nat.le_refl _)] at hrr
      unfold hist_Check.z at hrr
      obtain ⟨rfl, rfl⟩ : (0 : Int) = r1 ∧ (0 : Int) = r2 := by simpa using hrr
      clear hrr hz h hm
      go_wp2
      go_ret2
      exact ⟨rfl, hI.hB⟩
def cells40 (x : S65) : List Value := [.int .i64 x.f0, .int .i64 x.f1, .int .i64 x.f2, .bool x.f3, .int .i64 x.f4, .int .i64 x.f5, .int .i64 x.f6]
/-- A row of operations, by its block's cells. -/
structure Row40 (W : World) (b cap : Nat) (xs : List S65) (cur : Array Value) : Prop where
  hb : W.heap[b]? = some (.cells cur 65 (0, 0))
  hs : cur.size = cap * 7
  hn : xs.length ≤ cap
  hm : cap ≤ maxLen
  hc : ∀ i j : Nat, i < xs.length → j < 7 → cur[i * 7 + j]? = (cells40 (rd_T65 xs i))[j]?
theorem row40_of {W : World} {base : Nat} {ok : Nat → Prop} {v : Value} {xs : List S65} (h : k65.R 65 W base ok v xs) (hx : 0 < xs.length) :
    ∃ (b cap : Nat) (cur : Array Value), v = .slice (some ⟨b, 0, none⟩) xs.length cap ∧ base ≤ b ∧ Row40 W b cap xs cur := by
  obtain ⟨_, inner, ho, hr⟩ := h
  rcases ho.2 with ⟨_, h0⟩ | ⟨b, cap, cur, rfl, hb, hw, hn, hm, hs, ht⟩
  · omega
  · refine ⟨b, cap, cur, rfl, hb, hw, hs, hn, hm, fun i j hi hj => ?_⟩
    have e := k65_openM (hr.2 i (rd_T65 xs i) (by simp [rd_T65, List.getElem?_eq_getElem hi]))
    have e2 : ((inner.drop (i * 7)).take 7)[j]? = (cells40 (rd_T65 xs i))[j]? := by rw [show ((inner.drop (i * 7)).take 7) = cells40 (rd_T65 xs i) from e]
    rw [List.getElem?_take, if_pos hj, List.getElem?_drop, ← ht, List.getElem?_take, if_pos (show i * 7 + j < xs.length * k65.sz from by show i * 7 + j < xs.length * 7; omega), Array.getElem?_toList] at e2
    exact e2
theorem row40_to {W : World} {base : Nat} {b cap : Nat} {xs : List S65} {cur : Array Value} (h : Row40 W b cap xs cur) (hb : base ≤ b) : k65.R 65 W base (fun _ => True) (.slice (some ⟨b, 0, none⟩) xs.length cap) xs := by
  refine ⟨fun _ _ => trivial, cur.toList.take (xs.length * 7), ⟨?_, .inr ⟨b, cap, cur, rfl, hb, h.hb, h.hn, h.hm, h.hs, rfl⟩⟩, ?_, fun i p hp => ?_⟩
  · show (cur.toList.take (xs.length * 7)).length = xs.length * 7
    have e : cur.toList.length = cap * 7 := by simpa using h.hs
    have := h.hn; rw [List.length_take, e]; omega
  · show (cur.toList.take (xs.length * 7)).length = xs.length * 7
    have e : cur.toList.length = cap * 7 := by simpa using h.hs
    have := h.hn; rw [List.length_take, e]; omega
  · obtain ⟨hi, hp⟩ := List.getElem?_eq_some_iff.1 hp
    have e : ((cur.toList.take (xs.length * 7)).drop (i * 7)).take 7 = cells40 p := by
      apply List.ext_getElem?
      intro j
      rw [List.getElem?_take]
      by_cases hj : j < 7
      · rw [if_pos hj, List.getElem?_drop, List.getElem?_take, if_pos (by omega), Array.getElem?_toList, h.hc i j hi hj]
        have : rd_T65 xs i = p := by rw [← hp]; simp [rd_T65, List.getElem?_eq_getElem hi]
        rw [this]
      · rw [if_neg hj, List.getElem?_eq_none (by show 7 ≤ j; omega)]
    show k65.M W base _ p (((cur.toList.take (xs.length * 7)).drop (i * 7)).take 7)
    rw [e]
    exact k65_mkM _ _ _ _
theorem Row40.put {W : World} {b cap : Nat} {xs : List S65} {cur : Array Value} (h : Row40 W b cap xs cur) (i : Nat) (hi : i < xs.length) (d : Bool) (r t : Int) :
    ∃ cur2, Row40 (((W.setCell ⟨b, i * 7 + 3, none⟩ (.bool d)).setCell ⟨b, i * 7 + 4, none⟩ (.int .i64 r)).setCell ⟨b, i * 7 + 6, none⟩ (.int .i64 t)) b cap
      (xs.set i ⟨(rd_T65 xs i).f0, (rd_T65 xs i).f1, (rd_T65 xs i).f2, d, r, (rd_T65 xs i).f5, t⟩) cur2 := by
  have hn := h.hn
  refine ⟨_, blk_set (blk_set (blk_set h.hb _ _) _ _) _ _, by simp [h.hs], by simpa using hn, h.hm, fun i2 j h2 hj => ?_⟩
  rw [List.length_set] at h2
  have hz : i2 * 7 + j < cur.size := by rw [h.hs]; omega
  have e := h.hc i2 j h2 hj
  simp only [Array.getElem?_setIfInBounds, Array.size_setIfInBounds]
  by_cases c : i2 = i
  · subst c
    have hr : rd_T65 (xs.set i2 ⟨(rd_T65 xs i2).f0, (rd_T65 xs i2).f1, (rd_T65 xs i2).f2, d, r, (rd_T65 xs i2).f5, t⟩) i2 = ⟨(rd_T65 xs i2).f0, (rd_T65 xs i2).f1, (rd_T65 xs i2).f2, d, r, (rd_T65 xs i2).f5, t⟩ := by simp [rd_T65, h2]
    rw [hr]
    obtain rfl | rfl | rfl | rfl | rfl | rfl | rfl : j = 0 ∨ j = 1 ∨ j = 2 ∨ j = 3 ∨ j = 4 ∨ j = 5 ∨ j = 6 := by omega
    · rw [if_neg (by omega), if_neg (by omega), if_neg (by omega), e]; rfl
    · rw [if_neg (by omega), if_neg (by omega), if_neg (by omega), e]; rfl
    · rw [if_neg (by omega), if_neg (by omega), if_neg (by omega), e]; rfl
    · rw [if_neg (by omega), if_neg (by omega), if_pos rfl, if_pos hz]; rfl
    · rw [if_neg (by omega), if_pos rfl, if_pos hz]; rfl
    · rw [if_neg (by omega), if_neg (by omega), if_neg (by omega), e]; rfl
    · rw [if_pos rfl, if_pos hz]; rfl
  · rw [if_neg (by omega), if_neg (by omega), if_neg (by omega), e]
    have : rd_T65 (xs.set i ⟨(rd_T65 xs i).f0, (rd_T65 xs i).f1, (rd_T65 xs i).f2, d, r, (rd_T65 xs i).f5, t⟩) i2 = rd_T65 xs i2 := by
      simp only [rd_T65, Int.toNat_natCast, List.getD_eq_getElem?_getD]; rw [List.getElem?_set_ne (by omega)]
    rw [this]
/-- Operations, event by event: what was built, where each client's last one stands. -/
def hist_Ops.l0 : List S129 → Nat → List S65 → List Int → Option (List S65)
  | [], _, out, _ => some out
  | x :: l, i, out, la =>
    if 0 ≤ x.f0 ∧ x.f0 < 16 ∧ out.length ≤ 1000 then
      (if x.f1 = true then hist_Ops.l0 l (i + 1) (out ++ [⟨x.f0, x.f2, x.f3, false, 0, i, -1⟩]) (la.set x.f0.toNat (out.length : Int))
       else if 0 ≤ rd la x.f0 ∧ rd la x.f0 < (out.length : Int) then
        hist_Ops.l0 l (i + 1) (out.set (rd la x.f0).toNat ⟨(rd_T65 out (rd la x.f0)).f0, (rd_T65 out (rd la x.f0)).f1, (rd_T65 out (rd la x.f0)).f2, true, x.f3, (rd_T65 out (rd la x.f0)).f5, i⟩) la
       else none)
    else none
def hist_Ops.f (l0 : List S129) : Option (List S65 × Int) :=
  (hist_Check.f l0).bind fun t => if t.2 = 0 then (hist_Ops.l0 l0 0 [] (List.replicate 16 0)).bind fun o => some (o, 0) else some ([], t.2)
structure Os (w W : World) (g : Nat) (vO : Value) (out : List S65) (la : List Int) : Prop where
  hB : Below w.heap.size w W
  bg : w.heap.size ≤ g
  hg : W.heap[g]? = some (.cells (la.map (Value.int .i64)).toArray 127 (0, 0))
  hl : la.length = 16
  hO : k65.R 65 W w.heap.size (fun _ => True) vO out
theorem Os.came {w W W' : World} {g : Nat} {vO : Value} {out : List S65} {la : List Int} (h : Os w W g vO out la) (hb : Below W.heap.size W W') : Os w W' g vO out la :=
  ⟨below_step h.hB hb, h.bg, blk_below h.hg hb, h.hl, Kd.R_below h.hO hb⟩
theorem Os.cell {w W : World} {g : Nat} {vO : Value} {out : List S65} {la : List Int} (h : Os w W g vO out la) (c : Int) (h0 : 0 ≤ c) (h1 : c < 16) : W.cell? ⟨g, c.toNat, none⟩ = some (.int .i64 (rd la c)) ∧ W.frozen? ⟨g, c.toNat, none⟩ = false := by
  refine ⟨?_, blk_frozen h.hg _⟩
  rw [blk_cell h.hg]
  have : c.toNat < la.length := by rw [h.hl]; omega
  simp [rd, List.getElem?_eq_getElem this]
theorem Os.set {w W : World} {g : Nat} {vO : Value} {out : List S65} {la : List Int} (h : Os w W g vO out la) (c v : Int) : Os w (W.setCell ⟨g, c.toNat, none⟩ (.int .i64 v)) g vO out (la.set c.toNat v) :=
  ⟨below_set h.hB h.bg, h.bg, blk_put h.hg _ _ (by simp), by simp [h.hl], Kd.R_set h.hO h.hg (by decide) _ _⟩
theorem ops_infoO : (Try.prog.info? 65).map (fun i => (i.zero, i.size, i.bytes)) = some (some (.agg #[(.int .i64 0), (.int .i64 0), (.int .i64 0), (.bool false), (.int .i64 0), (.int .i64 0), (.int .i64 0)]), 7, 56) := by kernel_rfl
theorem ops_err (A0 : Option Addr) (c0 : Nat) (l0 : List S129) (r1 r2 : Int) (w : World) (hr0 : Kd.C k129 w A0 l0.length l0) (hc0 : l0.length ≤ c0) (h : hist_Check.f l0 = some (r1, r2)) (hn : r2 ≠ 0) :
    Calls Try.prog 52 #[.slice A0 l0.length c0] w fun e w' => e = .returned (.tuple #[.slice none 0 0, .int .i64 r2]) ∧ Below w.heap.size w w' := by
  have hn2 : (r2 != 0) = true := by simpa using hn
  go_enter Try.func52, Try.ntmps52
  go_wp2_with (first | (go_at_call 73; (with_reducible refine (hist_Check.calls A0 c0 l0 r1 r2 _ (by first | exact hr0 | exact Kd.C_drew hr0) hc0 h).mono ?_); rintro e w1 ⟨rfl, hb⟩))
  go_ret2
  exact ⟨rfl, hb⟩
set_option maxHeartbeats 8000000 in
theorem ops_main (A0 : Option Addr) (c0 : Nat) (l0 : List S129) (r1 : Int) (os : List S65) (w : World) (hr0 : Kd.C k129 w A0 l0.length l0) (hc0 : l0.length ≤ c0) (h : hist_Check.f l0 = some (r1, 0)) (ho : hist_Ops.l0 l0 0 [] (List.replicate 16 0) = some os) :
    Calls Try.prog 52 #[.slice A0 l0.length c0] w fun e w' => ∃ v0_, e = .returned (.tuple #[v0_, .int .i64 0]) ∧ Kd.R k65 65 w' w.heap.size (fun _ => True) v0_ os ∧ Below w.heap.size w w' := by
  have huE := Try.underlying129
  replace ho := Aside0.mk ho
  go_enter Try.func52, Try.ntmps52
  go_wp2_with (first | (go_at_call 73; (with_reducible refine (hist_Check.calls A0 c0 l0 r1 0 _ (by first | exact hr0 | exact Kd.C_drew hr0) hc0 h).mono ?_); rintro e w1 ⟨rfl, hb⟩))
  go_loopg [6, 21] l0.length (fun k v6 v21 W => ∃ (i : Nat) (out : List S65) (la : List Int), v21 = .int .i64 i ∧ Aside0 (k + i = l0.length) ∧ Aside0 (hist_Ops.l0 (l0.drop i) i out la = some os) ∧ i ≤ l0.length ∧ Os w W w1.heap.size v6 out la)
  case atStart => exact ⟨0, [], List.replicate 16 0, rfl, ⟨Nat.add_zero _⟩, ho, by omega, below_step hb (below_alloc (Below.refl _ _) _), hb.size, blk_new w1 _, rfl, Kd.R_nil _ _ _ _ _⟩
  case round =>
    obtain ⟨i, out, la, rfl, hk, hz, hin, hI⟩ := hrel
    have hm := Kd.C_max hr0
    by_cases hil : (i : Int) < (l0.length : Int)
    · have p0 : (0 : Int) ≤ (i : Int) := Int.natCast_nonneg i
      obtain ⟨j, rfl⟩ : ∃ j, gk = j + 1 := ⟨gk - 1, by have := hk.out; omega⟩
      obtain ⟨ad, rfl, hy0, hy1, hy2, hy3⟩ := at_T129 (Kd.C_below hr0 hI.hB) (i : Int) p0 hil
      simp only [Int.toNat_natCast] at hy0 hy1 hy2 hy3
      have hrr := hz.out
      rw [hist_drop l0 i (by omega)] at hrr
      unfold hist_Ops.l0 at hrr
      have hwi : wrap64 ((i : Int) + 1) = (i : Int) + 1 := w64_h (by omega) (by omega)
      clear h hz hm ho
      generalize (rd_T129 l0 i).f0 = cl at *
      generalize (rd_T129 l0 i).f1 = ca at *
      generalize (rd_T129 l0 i).f2 = op at *
      generalize (rd_T129 l0 i).f3 = va at *
      by_cases hcl : 0 ≤ cl ∧ cl < 16 ∧ out.length ≤ 1000
      · rw [if_pos hcl] at hrr
        obtain ⟨p1, p2, p3⟩ := hcl
        have hbx := blk_new wr (.cells #[.int .i64 cl, .bool ca, .int .i64 op, .int .i64 va] 129)
        have b0 := blk_cell hbx 0
        have b1 := blk_cell hbx 1
        have b2 := blk_cell hbx 2
        have b3 := blk_cell hbx 3
        have hJ := hI.came (below_alloc (Below.refl _ _) (.cells #[.int .i64 cl, .bool ca, .int .i64 op, .int .i64 va] 129))
        simp only [List.getElem?_toArray, List.getElem?_cons_zero, List.getElem?_cons_succ] at b0 b1 b2 b3
        clear hbx
        have n1 : w1.heap.size ≠ wr.heap.size := Nat.ne_of_lt (blk_lt hI.hg)
        have n2 : wr.heap.size ≠ w1.heap.size := fun e => n1 e.symm
        obtain ⟨o1, o2⟩ := hJ.cell cl p1 p2
        cases ca with
        | true =>
          rw [if_pos rfl] at hrr
          replace hrr := Aside0.mk hrr
          obtain ⟨Ao, co, rfl⟩ := Kd.R_slice hI.hO
          have hK := hJ.set cl (out.length : Int)
          go_wp2_with (first | ((with_reducible refine gate_builtin (b := .append) (xs := #[.tmp 33, .tmp 42]) rfl ?_); at_builtin; refine Kd.R_append k65 (w0 := w) w.heap.size rfl (.tmp 33) (.tmp 42) 55 65 (.agg #[.int .i64 0, .int .i64 0, .int .i64 0, .bool false, .int .i64 0, .int .i64 0, .int .i64 0]) 56 rfl Try.underlying55 ops_infoO rfl (by decide) (by omega) (.slice Ao out.length co) out (⟨cl, op, va, false, 0, i, -1⟩ : S65) [.int .i64 cl, .int .i64 op, .int .i64 va, .bool false, .int .i64 0, .int .i64 i, .int .i64 (-1)] (fun _ => True) (fun _ => False) rfl (by first | (go_simp; done) | (go_simp; rfl)) (k65_mkM _ _ _ (⟨cl, op, va, false, 0, i, -1⟩ : S65)) (fun _ h => h.elim) (fun _ _ => trivial) hK.hO hK.hB hK.hB.size (by omega) ?_; intro v3 w3 ho3 hb3 hg3 hat3))
          go_roundg j
          case measure => omega
          case rel => exact ⟨i + 1, out ++ [⟨cl, op, va, false, 0, i, -1⟩], la.set cl.toNat (out.length : Int), (by first | rfl | (rw [hwi]; rfl)), ⟨by have := hk.out; omega⟩, hrr, by omega, hb3, hK.bg, blk_grown hK.hg hg3 (Kd.R_ne hK.hO hK.hg (by decide)), hK.hl, ho3⟩
        | false =>
          rw [if_neg (by simp)] at hrr
          by_cases hix : 0 ≤ rd la cl ∧ rd la cl < (out.length : Int)
          · rw [if_pos hix] at hrr
            obtain ⟨q1, q2⟩ := hix
            obtain ⟨b, cap, cur, rfl, hbb, hrow0⟩ := row40_of hI.hO (by omega)
            have hrow : Row40 (wr.alloc (.cells #[.int .i64 cl, .bool false, .int .i64 op, .int .i64 va] 129)) b cap out cur := ⟨blk_alloc hrow0.hb _, hrow0.hs, hrow0.hn, hrow0.hm, hrow0.hc⟩
            have n3 : b ≠ wr.heap.size := Nat.ne_of_lt (blk_lt hrow0.hb)
            have n4 : wr.heap.size ≠ b := fun e => n3 e.symm
            have n5 : w1.heap.size ≠ b := blk_ne hI.hg hrow0.hb (by decide)
            have n6 : b ≠ w1.heap.size := fun e => n5 e.symm
            obtain ⟨t, ht⟩ : ∃ t : Nat, rd la cl = t := ⟨(rd la cl).toNat, by omega⟩
            rw [ht] at q1 q2 hrr o1
            have ht2 : t < out.length := by omega
            simp only [Int.toNat_natCast] at hrr
            have B0 : (wr.alloc (.cells #[.int .i64 cl, .bool false, .int .i64 op, .int .i64 va] 129)).heap[b]? = _ := hrow.hb
            have B1 := fun v => blk_set B0 (t * 7 + 3) v
            have B2 := fun v u => blk_set (B1 v) (t * 7 + 4) u
            have f3 := (blk_cell B0 (t * 7 + 3)).trans (hrow.hc t 3 ht2 (by omega))
            have f4 := fun v => (blk_cell (B1 v) (t * 7 + 4)).trans ((Array.getElem?_setIfInBounds_ne (by omega)).trans (hrow.hc t 4 ht2 (by omega)))
            have f6 := fun v u => (blk_cell (B2 v u) (t * 7 + 6)).trans ((Array.getElem?_setIfInBounds_ne (by omega)).trans ((Array.getElem?_setIfInBounds_ne (by omega)).trans (hrow.hc t 6 ht2 (by omega))))
            have z3 := blk_frozen B0 (t * 7 + 3)
            have z4 := fun v => blk_frozen (B1 v) (t * 7 + 4)
            have z6 := fun v u => blk_frozen (B2 v u) (t * 7 + 6)
            simp only [cells40, List.getElem?_cons_succ, List.getElem?_cons_zero] at f3 f4 f6
            clear B0 B1 B2
            replace hrr := Aside0.mk hrr
            obtain ⟨cur2, hput⟩ := hrow.put t ht2 true va i
            replace hput := Aside0.mk hput
            clear hrow0
            replace hrow := Aside0.mk hrow
            go_wp2
            go_region_held3 (fun W => W.cell? ⟨wr.heap.size, 3, none⟩ = some (.int .i64 va)) (first | assumption | exact b3 | exact (World.cell?_setCell_far _ _ _ _ n3).trans (by assumption)) (fail)
            have hR := row40_to hput.out hbb
            rw [List.length_set] at hR
            have hN : Os w _ w1.heap.size _ _ la := ⟨below_drew1 (below_set (below_set (below_set hJ.hB hbb) hbb) hbb), hJ.bg, blk_drew (blk_far (blk_far (blk_far hJ.hg n5 _) n5 _) n5 _), hJ.hl, Kd.R_drew hR⟩
            go_wp2
            go_roundg j
            case measure => omega
            case rel => exact ⟨i + 1, _, la, (by first | rfl | (rw [hwi]; rfl)), ⟨by have := hk.out; omega⟩, hrr, by omega, hN⟩
          · rw [if_neg hix] at hrr; exact absurd hrr (by simp)
      · rw [if_neg hcl] at hrr; exact absurd hrr (by simp)
    · obtain rfl : i = l0.length := by omega
      have hrr := hz.out
      rw [List.drop_of_length_le (Nat.le_refl _)] at hrr
      unfold hist_Ops.l0 at hrr
      obtain rfl : out = os := by simpa using hrr
      clear hrr hz h hm ho
      go_wp2
      go_ret2
      exact ⟨_, rfl, hI.hO, hI.hB⟩
theorem hist_Ops.calls (A0 : Option Addr) (c0 : Nat) (l0 : List S129) (r1 : List S65) (r2 : Int) (w : World) (hr0 : Kd.C k129 w A0 l0.length l0) (hc0 : l0.length ≤ c0) (h : hist_Ops.f l0 = some (r1, r2)) :
    Calls Try.prog 52 #[.slice A0 l0.length c0] w fun e w' => ∃ v0_ : Value, e = .returned (.tuple #[v0_, .int .i64 r2]) ∧ Kd.R k65 65 w' w.heap.size (fun _ => True) v0_ r1 ∧ Below w.heap.size w w' := by
  unfold hist_Ops.f at h
  obtain ⟨⟨p, q⟩, hc, h⟩ := Option.bind_eq_some_iff.1 h
  dsimp only at h
  by_cases c : q = 0
  · subst c
    rw [if_pos rfl] at h
    obtain ⟨os, ho, h⟩ := Option.bind_eq_some_iff.1 h
    obtain ⟨rfl, rfl⟩ : os = r1 ∧ (0 : Int) = r2 := by simpa using h
    exact ops_main A0 c0 l0 p os w hr0 hc0 hc ho
  · rw [if_neg c] at h
    obtain ⟨rfl, rfl⟩ : [] = r1 ∧ q = r2 := by simpa using h
    refine (ops_err A0 c0 l0 p q w hr0 hc0 hc c).mono ?_
    rintro e w' ⟨rfl, hb⟩
    exact ⟨_, rfl, Kd.R_nil _ _ _ _ _, hb⟩
def badE (x : S129) : Prop := x.f0 < 0 ∨ 16 ≤ x.f0 ∨ x.f2 < 0 ∨ 16 ≤ x.f2 ∨ (x.f1 = false ∧ x.f2 ≠ 0)
instance (x : S129) : Decidable (badE x) := by unfold badE; infer_instance
theorem rdOf_set (xs : List Bool) (a c : Int) (b : Bool) (ha : 0 ≤ a) (hc : 0 ≤ c) (h : a.toNat < xs.length) : rdOf false (xs.set a.toNat b) c = if a = c then b else rdOf false xs c := by
  obtain ⟨n, rfl⟩ := Int.eq_ofNat_of_zero_le ha
  obtain ⟨m, rfl⟩ := Int.eq_ofNat_of_zero_le hc
  simp only [rdOf, Int.toNat_natCast, List.getD_eq_getElem?_getD] at h ⊢
  by_cases e : n = m
  · subst e; rw [if_pos rfl, List.getElem?_set_self h]; rfl
  · rw [if_neg (by omega), List.getElem?_set_ne e]
theorem z_bad (x : S129) (l : List S129) (i : Nat) (c : Int) (xs : List Bool) (h : badE x) : hist_Check.z (x :: l) i c xs = ((i : Int), 2) := by rw [hist_Check.z]; exact if_pos h
theorem z_ok (x : S129) (l : List S129) (i : Nat) (c : Int) (xs : List Bool) (h : ¬ badE x) : hist_Check.z (x :: l) i c xs = if x.f1 = true ∧ c = 64 then ((i : Int), 5) else if x.f1 = rdOf false xs x.f0 then ((i : Int), 20) else hist_Check.z l (i + 1) (if x.f1 = true then c + 1 else c) (xs.set x.f0.toNat x.f1) := by rw [hist_Check.z]; exact if_neg h
def chkZ (L : List S129) : Int × Int := hist_Check.z L 0 0 (List.replicate 16 false)
theorem few14 (l : List S129) (n : Nat) (hn : n ≤ 1000) (h : l.length ≤ maxLen) : inquestref14_Few.f l n = some (l.take n) := by
  unfold inquestref14_Few.f
  have e : ([] : List S129).length = 0 := rfl
  by_cases c : l.length ≤ n
  · rw [if_neg (by omega), if_pos (by rw [e]; omega), List.take_of_length_le c]; rfl
  · rw [if_pos (by omega), if_pos (by omega), if_pos (by omega)]
    simp only [Option.bind_some, Int.toNat_natCast]
    rw [if_pos (by rw [e, List.length_take]; omega)]; rfl
def clo1 (x : S129) (n : Nat) (o : S65) : S65 := if o.f3 = false ∧ x.f0 = o.f0 then ⟨o.f0, o.f1, o.f2, true, x.f3, o.f5, n⟩ else o
/-- An operation, and the events behind it. -/
def clo : List S129 → Nat → S65 → S65
  | [], _, o => o
  | x :: l, n, o => clo l (n + 1) (clo1 x n o)
def newO (x : S129) (n : Nat) : S65 := ⟨x.f0, x.f2, x.f3, false, 0, n, -1⟩
def opsZ : List S129 → Nat → List S65
  | [], _ => []
  | x :: l, n => if x.f1 = true then clo l (n + 1) (newO x n) :: opsZ l (n + 1) else opsZ l (n + 1)
theorem clo_done : ∀ (l : List S129) (n : Nat) (o : S65), o.f3 = true → clo l n o = o
  | [], _, _, _ => rfl
  | x :: l, n, o, h => by
    have e : clo1 x n o = o := by unfold clo1; rw [if_neg (by rw [h]; simp)]
    rw [clo, e]; exact clo_done l (n + 1) o h
theorem opsZ_len : ∀ (l : List S129) (n : Nat), (opsZ l n).length ≤ l.length
  | [], _ => by simp [opsZ]
  | x :: l, n => by rw [opsZ]; have := opsZ_len l (n + 1); split <;> simp <;> omega
structure Lasts (out : List S65) (la : List Int) (xs : List Bool) : Prop where
  hl : la.length = 16
  hx : xs.length = 16
  on : ∀ cl : Int, 0 ≤ cl → cl < 16 → rdOf false xs cl = true → 0 ≤ rd la cl ∧ rd la cl < out.length ∧ (rd_T65 out (rd la cl)).f0 = cl ∧ (rd_T65 out (rd la cl)).f3 = false
  off : ∀ (cl : Int) (j : Nat), 0 ≤ cl → cl < 16 → j < out.length → (rd_T65 out j).f0 = cl → (rd_T65 out j).f3 = false → rdOf false xs cl = true ∧ (j : Int) = rd la cl
theorem rd_seti (xs : List Int) (a c v : Int) (ha : 0 ≤ a) (hc : 0 ≤ c) (h : a.toNat < xs.length) : rd (xs.set a.toNat v) c = if a = c then v else rd xs c := by
  obtain ⟨n, rfl⟩ := Int.eq_ofNat_of_zero_le ha
  obtain ⟨m, rfl⟩ := Int.eq_ofNat_of_zero_le hc
  simp only [rd, Int.toNat_natCast, List.getD_eq_getElem?_getD] at h ⊢
  by_cases e : n = m
  · subst e; rw [if_pos rfl, List.getElem?_set_self h]; rfl
  · rw [if_neg (by omega), List.getElem?_set_ne e]
theorem rdo_app (out : List S65) (o : S65) (j : Nat) (h : j < out.length) : rd_T65 (out ++ [o]) j = rd_T65 out j := by
  simp only [rd_T65, Int.toNat_natCast, List.getD_eq_getElem?_getD]; rw [List.getElem?_append_left h]
theorem rdo_last (out : List S65) (o : S65) : rd_T65 (out ++ [o]) (out.length : Int) = o := by
  simp [rd_T65]
theorem rdo_set (out : List S65) (o : S65) (i j : Nat) (h : i < out.length) : rd_T65 (out.set i o) j = if i = j then o else rd_T65 out j := by
  simp only [rd_T65, Int.toNat_natCast, List.getD_eq_getElem?_getD]
  by_cases e : i = j
  · subst e; rw [if_pos rfl, List.getElem?_set_self h]; rfl
  · rw [if_neg e, List.getElem?_set_ne e]
theorem Lasts.call {out : List S65} {la : List Int} {xs : List Bool} (h : Lasts out la xs) (x : S129) (n : Nat) (hb : ¬ badE x) (hx : rdOf false xs x.f0 = false) :
    Lasts (out ++ [newO x n]) (la.set x.f0.toNat (out.length : Int)) (xs.set x.f0.toNat true) := by
  unfold badE at hb
  refine ⟨by simpa using h.hl, by simpa using h.hx, fun cl h0 h1 hc => ?_, fun cl j h0 h1 hj hf h3 => ?_⟩
  · rw [rd_seti _ _ _ _ (by omega) h0 (by rw [h.hl]; omega)]
    rw [rdOf_set _ _ _ _ (by omega) h0 (by rw [h.hx]; omega)] at hc
    by_cases e : x.f0 = cl
    · rw [if_pos e]
      rw [rdo_last]
      exact ⟨by omega, by simp; omega, e, rfl⟩
    · rw [if_neg e] at hc ⊢
      obtain ⟨a, b, c, d⟩ := h.on cl h0 h1 hc
      obtain ⟨m, hm⟩ := Int.eq_ofNat_of_zero_le a
      rw [hm] at a b c d ⊢
      rw [rdo_app _ _ _ (by omega)]
      exact ⟨a, by simp; omega, c, d⟩
  · rw [rd_seti _ _ _ _ (by omega) h0 (by rw [h.hl]; omega), rdOf_set _ _ _ _ (by omega) h0 (by rw [h.hx]; omega)]
    rw [List.length_append, List.length_singleton] at hj
    by_cases ej : j = out.length
    · subst ej
      rw [rdo_last] at hf
      have e : x.f0 = cl := hf
      rw [if_pos e, if_pos e]; exact ⟨rfl, rfl⟩
    · rw [rdo_app _ _ _ (by omega)] at hf h3
      obtain ⟨a, b⟩ := h.off cl j h0 h1 (by omega) hf h3
      have e : ¬ x.f0 = cl := by intro e; rw [e, a] at hx; exact absurd hx (by simp)
      rw [if_neg e, if_neg e]; exact ⟨a, b⟩
theorem Lasts.answer {out : List S65} {la : List Int} {xs : List Bool} (h : Lasts out la xs) (x : S129) (n t : Nat) (hb : ¬ badE x) (hx : rdOf false xs x.f0 = true) (ht : rd la x.f0 = t) (o : S65) (h0 : o.f0 = x.f0) (h3 : o.f3 = true) :
    Lasts (out.set t o) la (xs.set x.f0.toNat false) := by
  unfold badE at hb
  obtain ⟨a, b, c, d⟩ := h.on x.f0 (by omega) (by omega) hx
  rw [ht] at a b c d
  refine ⟨h.hl, by simpa using h.hx, fun cl g0 g1 hc => ?_, fun cl j g0 g1 hj hf hf3 => ?_⟩
  · rw [rdOf_set _ _ _ _ (by omega) g0 (by rw [h.hx]; omega)] at hc
    by_cases e : x.f0 = cl
    · rw [if_pos e] at hc; exact absurd hc (by simp)
    · rw [if_neg e] at hc
      obtain ⟨a2, b2, c2, d2⟩ := h.on cl g0 g1 hc
      obtain ⟨m, hm⟩ := Int.eq_ofNat_of_zero_le a2
      rw [hm] at a2 b2 c2 d2 ⊢
      have : ¬ t = m := by intro e2; subst e2; exact e (c.symm.trans c2)
      rw [rdo_set _ _ _ _ (by omega), if_neg this]
      exact ⟨a2, by simp; omega, c2, d2⟩
  · rw [List.length_set] at hj
    rw [rdo_set _ _ _ _ (by omega)] at hf hf3
    by_cases e : t = j
    · rw [if_pos e, h3] at hf3; exact absurd hf3 (by simp)
    · rw [if_neg e] at hf hf3
      obtain ⟨a2, b2⟩ := h.off cl j g0 g1 hj hf hf3
      have e2 : ¬ x.f0 = cl := by intro e2; rw [← e2, ht] at b2; omega
      rw [rdOf_set _ _ _ _ (by omega) g0 (by rw [h.hx]; omega), if_neg e2]; exact ⟨a2, b2⟩
theorem hist_Ops_z : ∀ (l : List S129) (n : Nat) (c : Int) (out : List S65) (la : List Int) (xs : List Bool), Lasts out la xs → (hist_Check.z l n c xs).2 = 0 → out.length + l.length ≤ 1000 →
    hist_Ops.l0 l n out la = some (out.map (clo l n) ++ opsZ l n)
  | [], n, c, out, la, xs, _, _, _ => by
    unfold hist_Ops.l0 opsZ
    have : (fun o => clo [] n o) = id := rfl
    rw [show out.map (clo [] n) = out from by rw [show clo [] n = id from rfl, List.map_id], List.append_nil]
  | x :: l, n, c, out, la, xs, h, hz, hn => by
    by_cases hb : badE x
    · rw [z_bad _ _ _ _ _ hb] at hz; exact absurd hz (by simp)
    · rw [z_ok _ _ _ _ _ hb] at hz
      rw [List.length_cons] at hn
      have hbb := hb
      unfold badE at hbb
      by_cases c1 : x.f1 = true ∧ c = 64
      · rw [if_pos c1] at hz; exact absurd hz (by simp)
      · rw [if_neg c1] at hz
        by_cases c2 : x.f1 = rdOf false xs x.f0
        · rw [if_pos c2] at hz; exact absurd hz (by simp)
        · rw [if_neg c2] at hz
          unfold hist_Ops.l0
          rw [if_pos ⟨by omega, by omega, by omega⟩]
          cases hf : x.f1 with
          | true =>
            rw [hf] at hz c2
            have hx : rdOf false xs x.f0 = false := by cases e : rdOf false xs x.f0 <;> simp_all
            rw [if_pos rfl]
            show hist_Ops.l0 l (n + 1) (out ++ [newO x n]) _ = _
            rw [hist_Ops_z l (n + 1) _ _ _ _ (h.call x n hb hx) hz (by rw [List.length_append, List.length_singleton]; omega)]
            rw [opsZ, if_pos hf, List.map_append, List.append_assoc]
            congr 2
            apply List.map_congr_left
            intro o ho
            rw [clo]
            congr 1
            unfold clo1
            obtain ⟨j, hj, rfl⟩ := List.getElem_of_mem ho
            rw [if_neg]
            rintro ⟨h3, h0⟩
            have e : rd_T65 out j = out[j] := by simp [rd_T65, List.getElem?_eq_getElem hj]
            have := (h.off x.f0 j (by omega) (by omega) hj (by rw [e, ← h0]) (by rw [e]; exact h3)).1
            rw [hx] at this; exact absurd this (by simp)
          | false =>
            rw [hf] at hz c2
            have hx : rdOf false xs x.f0 = true := by cases e : rdOf false xs x.f0 <;> simp_all
            obtain ⟨a, b, c3, d⟩ := h.on x.f0 (by omega) (by omega) hx
            obtain ⟨t, ht⟩ := Int.eq_ofNat_of_zero_le a
            rw [ht] at a b c3 d
            rw [if_neg (by simp), ht, if_pos ⟨a, b⟩, Int.toNat_natCast]
            rw [hist_Ops_z l (n + 1) _ _ _ _ (h.answer x n t hb hx ht ⟨(rd_T65 out t).f0, (rd_T65 out t).f1, (rd_T65 out t).f2, true, x.f3, (rd_T65 out t).f5, n⟩ c3 rfl) hz (by rw [List.length_set]; omega)]
            rw [opsZ, if_neg (by rw [hf]; simp)]
            congr 2
            have e : out.set t ⟨(rd_T65 out t).f0, (rd_T65 out t).f1, (rd_T65 out t).f2, true, x.f3, (rd_T65 out t).f5, n⟩ = out.map (clo1 x n) := by
              apply List.ext_getElem (by simp)
              intro j h1 h2
              rw [List.length_set] at h1
              have ej : rd_T65 out j = out[j] := by simp [rd_T65, List.getElem?_eq_getElem h1]
              rw [List.getElem_set, List.getElem_map]
              unfold clo1
              by_cases e : t = j
              · subst e
                rw [if_pos rfl, ← ej, if_pos ⟨d, c3.symm⟩]
              · rw [if_neg e, if_neg]
                rintro ⟨h3, h0⟩
                have := (h.off x.f0 j (by omega) (by omega) h1 (by rw [ej, ← h0]) (by rw [ej]; exact h3)).2
                omega
            rw [e, List.map_map]; rfl
def opsA (L : List S129) : List S65 × Int := if (chkZ L).2 = 0 then (opsZ L 0, 0) else ([], (chkZ L).2)
theorem Lasts.start : Lasts [] (List.replicate 16 0) (List.replicate 16 false) := by
  refine ⟨rfl, rfl, fun cl h0 h1 hc => ?_, fun cl j _ _ hj => absurd hj (by simp)⟩
  obtain ⟨n, rfl⟩ := Int.eq_ofNat_of_zero_le h0
  have key : ∀ n : Nat, n < 16 → rdOf false (List.replicate 16 false) (n : Int) = false := by decide +kernel
  rw [key n (by omega)] at hc; exact absurd hc (by simp)
theorem hist_Ops_is (L : List S129) (hl : L.length ≤ 1000) : hist_Ops.f L = some (opsA L) := by
  unfold hist_Ops.f opsA
  rw [show hist_Check.f L = some (chkZ L) from rfl]
  simp only [Option.bind_some]
  by_cases c : (chkZ L).2 = 0
  · rw [if_pos c, if_pos c, hist_Ops_z L 0 0 [] _ _ Lasts.start c (by simpa using hl)]; rfl
  · rw [if_neg c, if_neg c]
/-- What an operation is when nothing is known from place n on. -/
def trimO (n : Int) (o : S65) : S65 := if n ≤ o.f6 then ⟨o.f0, o.f1, o.f2, false, 0, o.f5, -1⟩ else o
theorem z_take : ∀ (l : List S129) (i : Nat) (c : Int) (xs : List Bool) (m : Nat),
    ((hist_Check.z l i c xs).2 = 0 → (hist_Check.z (l.take m) i c xs).2 = 0) ∧
    ((hist_Check.z l i c xs).2 ≠ 0 → ∃ k : Nat, (hist_Check.z l i c xs).1 = ((i + k : Nat) : Int) ∧ ((hist_Check.z (l.take m) i c xs).2 ≠ 0 ↔ k < m))
  | [], i, c, xs, m => by simp [hist_Check.z]
  | x :: l, i, c, xs, 0 => by
    refine ⟨fun _ => rfl, fun h => ?_⟩
    have key : ∀ (l : List S129) (i : Nat) (c : Int) (xs : List Bool), (hist_Check.z l i c xs).2 ≠ 0 → ∃ k : Nat, (hist_Check.z l i c xs).1 = ((i + k : Nat) : Int) := by
      intro l
      induction l with
      | nil => intro i c xs h; simp [hist_Check.z] at h
      | cons x l ih =>
        intro i c xs h
        by_cases hb : badE x
        · exact ⟨0, by rw [z_bad _ _ _ _ _ hb]; rfl⟩
        · rw [z_ok _ _ _ _ _ hb] at h ⊢
          split at h
          · rename_i c1; exact ⟨0, by rw [if_pos c1]; rfl⟩
          · rename_i c1
            split at h
            · rename_i c2; exact ⟨0, by rw [if_neg c1, if_pos c2]; rfl⟩
            · rename_i c2
              obtain ⟨k, hk⟩ := ih _ _ _ h
              exact ⟨k + 1, by rw [if_neg c1, if_neg c2, hk]; congr 1; omega⟩
    obtain ⟨k, hk⟩ := key _ _ _ _ h
    exact ⟨k, hk, by simp [hist_Check.z]⟩
  | x :: l, i, c, xs, m + 1 => by
    rw [List.take_succ_cons]
    by_cases hb : badE x
    · rw [z_bad _ _ _ _ _ hb, z_bad _ _ _ _ _ hb]
      exact ⟨fun h => h, fun _ => ⟨0, rfl, by simp⟩⟩
    · rw [z_ok _ _ _ _ _ hb, z_ok _ _ _ _ _ hb]
      by_cases c1 : x.f1 = true ∧ c = 64
      · rw [if_pos c1, if_pos c1]; exact ⟨fun h => h, fun _ => ⟨0, rfl, by simp⟩⟩
      · rw [if_neg c1, if_neg c1]
        by_cases c2 : x.f1 = rdOf false xs x.f0
        · rw [if_pos c2, if_pos c2]; exact ⟨fun h => h, fun _ => ⟨0, rfl, by simp⟩⟩
        · rw [if_neg c2, if_neg c2]
          obtain ⟨h1, h2⟩ := z_take l (i + 1) (if x.f1 = true then c + 1 else c) (xs.set x.f0.toNat x.f1) m
          refine ⟨h1, fun h => ?_⟩
          obtain ⟨k, e1, e2⟩ := h2 h
          exact ⟨k + 1, by rw [e1]; congr 1; omega, e2.trans (by omega)⟩
theorem clo_from : ∀ (l : List S129) (n : Nat) (o : S65), (clo l n o).f5 = o.f5
  | [], n, o => rfl
  | x :: l, n, o => by rw [clo, clo_from l (n + 1)]; unfold clo1; split <;> rfl
theorem clo_take : ∀ (l : List S129) (n m : Nat) (o : S65), o.f3 = false → o.f4 = 0 → o.f6 = -1 → clo (l.take m) n o = trimO ((n + m : Nat) : Int) (clo l n o)
  | [], n, m, o, h3, h4, h6 => by simp [clo, trimO, h6]; omega
  | x :: l, n, 0, o, h3, h4, h6 => by
    rw [List.take_zero, clo]
    have key : ∀ (l : List S129) (k : Nat) (o : S65), n ≤ k → o.f3 = false → o.f4 = 0 → o.f6 = -1 → o = trimO (n : Int) (clo l k o) := by
      intro l
      induction l with
      | nil => intro k o hk h3 h4 h6; simp [clo, trimO, h6]; omega
      | cons x l ih =>
        intro k o hk h3 h4 h6
        rw [clo]
        by_cases hx : o.f3 = false ∧ x.f0 = o.f0
        · have e : clo1 x k o = ⟨o.f0, o.f1, o.f2, true, x.f3, o.f5, k⟩ := if_pos hx
          rw [e, clo_done _ _ _ rfl]
          unfold trimO
          rw [if_pos (by show (n : Int) ≤ (k : Int); omega)]
          cases o; simp_all
        · have e : clo1 x k o = o := if_neg hx
          rw [e]; exact ih (k + 1) o (by omega) h3 h4 h6
    exact key (x :: l) n o (Nat.le_refl _) h3 h4 h6
  | x :: l, n, m + 1, o, h3, h4, h6 => by
    rw [List.take_succ_cons, clo, clo]
    by_cases hx : o.f3 = false ∧ x.f0 = o.f0
    · have e : clo1 x n o = ⟨o.f0, o.f1, o.f2, true, x.f3, o.f5, n⟩ := if_pos hx
      rw [e, clo_done _ _ _ rfl, clo_done _ _ _ rfl]
      unfold trimO
      rw [if_neg (by show ¬ ((n + (m + 1) : Nat) : Int) ≤ (n : Int); omega)]
    · have e : clo1 x n o = o := if_neg hx
      rw [e, clo_take l (n + 1) m o h3 h4 h6, show n + 1 + m = n + (m + 1) from by omega]
theorem opsZ_from : ∀ (l : List S129) (n : Nat) (j : Nat), j < (opsZ l n).length → (n : Int) ≤ (rd_T65 (opsZ l n) (j : Int)).f5
  | [], n, j, h => by simp [opsZ] at h
  | x :: l, n, j, h => by
    rw [opsZ] at h ⊢
    by_cases c : x.f1 = true
    · rw [if_pos c] at h ⊢
      cases j with
      | zero => simp only [rd_T65]; simp [clo_from, newO]
      | succ j =>
        have := opsZ_from l (n + 1) j (by simpa using h)
        simp only [rd_T65, Int.toNat_natCast, List.getD_eq_getElem?_getD, List.getElem?_cons_succ] at this ⊢
        omega
    · rw [if_neg c] at h ⊢
      have := opsZ_from l (n + 1) j h
      omega
theorem rd_cons0 (o : S65) (l : List S65) : rd_T65 (o :: l) ((0 : Nat) : Int) = o := rfl
theorem rd_cons1 (o : S65) (l : List S65) (j : Nat) : rd_T65 (o :: l) ((j + 1 : Nat) : Int) = rd_T65 l (j : Int) := by
  simp only [rd_T65, Int.toNat_natCast, List.getD_eq_getElem?_getD, List.getElem?_cons_succ]
theorem opsZ_take : ∀ (l : List S129) (n m : Nat), (opsZ (l.take m) n).length ≤ (opsZ l n).length ∧ (∀ j, j < (opsZ (l.take m) n).length → rd_T65 (opsZ (l.take m) n) (j : Int) = trimO ((n + m : Nat) : Int) (rd_T65 (opsZ l n) (j : Int))) ∧
    (∀ j, (opsZ (l.take m) n).length ≤ j → j < (opsZ l n).length → ((n + m : Nat) : Int) ≤ (rd_T65 (opsZ l n) (j : Int)).f5)
  | [], n, m => by simp [opsZ]
  | x :: l, n, 0 => by
    rw [List.take_zero]
    refine ⟨Nat.zero_le _, fun j hj => by simp [opsZ] at hj, fun j _ hj => ?_⟩
    exact opsZ_from (x :: l) n j hj
  | x :: l, n, m + 1 => by
    rw [List.take_succ_cons, opsZ, opsZ]
    obtain ⟨h1, h2, h3⟩ := opsZ_take l (n + 1) m
    rw [show n + 1 + m = n + (m + 1) from by omega] at h2 h3
    by_cases c : x.f1 = true
    · rw [if_pos c, if_pos c]
      refine ⟨by simpa using h1, fun j hj => ?_, fun j hj1 hj2 => ?_⟩
      · cases j with
        | zero =>
          rw [rd_cons0, rd_cons0, clo_take l (n + 1) m _ rfl rfl rfl, show n + 1 + m = n + (m + 1) from by omega]
        | succ j => rw [rd_cons1, rd_cons1]; exact h2 j (by simpa using hj)
      · cases j with
        | zero => simp at hj1
        | succ j => rw [rd_cons1]; exact h3 j (by simpa using hj1) (by simpa using hj2)
    · rw [if_neg c, if_neg c]; exact ⟨h1, h2, h3⟩
/-- An operation ends behind its beginning. -/
theorem clo_ends : ∀ (l : List S129) (n : Nat) (o : S65), o.f5 < (n : Int) → (o.f3 = true → o.f5 < o.f6) → (clo l n o).f3 = true → (clo l n o).f5 < (clo l n o).f6
  | [], n, o, _, h2 => fun h => h2 h
  | x :: l, n, o, h1, h2 => by
    rw [clo]
    refine clo_ends l (n + 1) _ ?_ ?_
    · unfold clo1; split <;> ((try dsimp only); omega)
    · unfold clo1
      split
      · intro _; exact h1
      · exact h2
theorem opsZ_ends : ∀ (l : List S129) (n j : Nat), j < (opsZ l n).length → (rd_T65 (opsZ l n) (j : Int)).f3 = true → (rd_T65 (opsZ l n) (j : Int)).f5 < (rd_T65 (opsZ l n) (j : Int)).f6
  | [], n, j, h => by simp [opsZ] at h
  | x :: l, n, j, h => by
    rw [opsZ] at h ⊢
    by_cases c : x.f1 = true
    · rw [if_pos c] at h ⊢
      cases j with
      | zero => rw [rd_cons0]; exact clo_ends l (n + 1) _ (by simp only [newO]; omega) (fun h => by cases h)
      | succ j => rw [rd_cons1]; exact opsZ_ends l (n + 1) j (by simpa using h)
    · rw [if_neg c] at h ⊢
      exact opsZ_ends l (n + 1) j h
/-- Only calls: none is answered. -/
theorem clo_calls : ∀ (l : List S129) (n i : Nat) (c : Int) (xs : List Bool) (o : S65), xs.length = 16 → (∀ x ∈ l, x.f1 = true) → (hist_Check.z l i c xs).2 = 0 → 0 ≤ o.f0 → rdOf false xs o.f0 = true → clo l n o = o
  | [], _, _, _, _, _, _, _, _, _, _ => rfl
  | x :: l, n, i, c, xs, o, hl, hx, hz, h0, ho => by
    have hx1 := hx x (by simp)
    by_cases hb : badE x
    · rw [z_bad _ _ _ _ _ hb] at hz; exact absurd hz (by simp)
    · rw [z_ok _ _ _ _ _ hb] at hz
      unfold badE at hb
      by_cases c1 : x.f1 = true ∧ c = 64
      · rw [if_pos c1] at hz; exact absurd hz (by simp)
      · rw [if_neg c1] at hz
        by_cases c2 : x.f1 = rdOf false xs x.f0
        · rw [if_pos c2] at hz; exact absurd hz (by simp)
        · rw [if_neg c2] at hz
          have e : clo1 x n o = o := by
            unfold clo1
            rw [if_neg]
            rintro ⟨_, e⟩
            rw [e, ho, hx1] at c2
            exact c2 rfl
          rw [clo, e]
          refine clo_calls l (n + 1) (i + 1) _ _ o (by simpa using hl) (fun y hy => hx y (by simp [hy])) hz h0 ?_
          rw [rdOf_set _ _ _ _ (by omega) h0 (by rw [hl]; omega)]
          split
          · exact hx1
          · exact ho
theorem opsZ_calls : ∀ (l : List S129) (n i : Nat) (c : Int) (xs : List Bool), xs.length = 16 → (∀ x ∈ l, x.f1 = true) → (hist_Check.z l i c xs).2 = 0 → ∀ j : Nat, (rd_T65 (opsZ l n) (j : Int)).f3 = false
  | [], _, _, _, _, _, _, _, j => by simp [opsZ, rd_T65]; rfl
  | x :: l, n, i, c, xs, hl, hx, hz, j => by
    have hx1 := hx x (by simp)
    by_cases hb : badE x
    · rw [z_bad _ _ _ _ _ hb] at hz; exact absurd hz (by simp)
    · rw [z_ok _ _ _ _ _ hb] at hz
      unfold badE at hb
      by_cases c1 : x.f1 = true ∧ c = 64
      · rw [if_pos c1] at hz; exact absurd hz (by simp)
      · rw [if_neg c1] at hz
        by_cases c2 : x.f1 = rdOf false xs x.f0
        · rw [if_pos c2] at hz; exact absurd hz (by simp)
        · rw [if_neg c2] at hz
          rw [opsZ, if_pos hx1]
          have hl2 : (xs.set x.f0.toNat x.f1).length = 16 := by simpa using hl
          cases j with
          | zero =>
            rw [rd_cons0, clo_calls l (n + 1) (i + 1) _ _ (newO x n) hl2 (fun y hy => hx y (by simp [hy])) hz (by simp only [newO]; omega) (by simp only [newO]; rw [rdOf_set _ _ _ _ (by omega) (by omega) (by rw [hl]; omega), if_pos rfl]; exact hx1)]
            rfl
          | succ j => rw [rd_cons1]; exact opsZ_calls l (n + 1) (i + 1) _ _ hl2 (fun y hy => hx y (by simp [hy])) hz j
theorem opsZ_less : ∀ (l : List S129) (n : Nat), (∃ x ∈ l, x.f1 = false) → (opsZ l n).length < l.length
  | [], _, h => by simp at h
  | x :: l, n, h => by
    rw [opsZ]
    by_cases c : x.f1 = true
    · rw [if_pos c]
      have : ∃ y ∈ l, y.f1 = false := by
        obtain ⟨y, hy, h⟩ := h
        rcases List.mem_cons.mp hy with rfl | hy
        · rw [c] at h; cases h
        · exact ⟨y, hy, h⟩
      have := opsZ_less l (n + 1) this
      simp; omega
    · rw [if_neg c]
      have := opsZ_len l (n + 1)
      simp; omega
end Go.Proofs.Ytddkoimaghcbeaa.PVmSteps
