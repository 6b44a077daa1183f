/- A part of what the law LinTells stands on, only as far as it is needed (the words and walks were printed or written in this seat; this text was cut by a program of this session, wip/bin/trim.py). No condition beyond what each theorem says. -/
import Derived.Test.YtddkoimaghcbeaaZLTPVmStepsx0
import Derived.Test.YtddkoimaghcbeaaZLTPVmStepsx2
import Derived.Test.YtddkoimaghcbeaaZLTPVmStepsx3
import Derived.Test.YtddkoimaghcbeaaZLTPVmStepsx4
import Derived.Test.YtddkoimaghcbeaaZLTPVmStepsx5
import Derived.Test.YtddkoimaghcbeaaZLTPVmStepsx6
namespace Go.Proofs.Ytddkoimaghcbeaa.PVmSteps
open Go.RowKit Go.Proofs.YtddkoimaghcbeaaW.PrintWords Go.Proofs.YtddkoimaghcbeaaW.PrintLast Go.Proofs.YtddkoimaghcbeaaW.PrintMore
set_option linter.unusedVariables false
set_option linter.unusedSimpArgs false
section RegBy
variable {P : Program}
/-- Who fills a slot. -/
def rbW (l : List Oper) (t : Tmp) : Nat → Option Nat
  | 0 => none
  | k + 1 => if ((l[k]?).bind (·.dst)) = some t then some k else rbW l t k
def rbB (T : List (List Nat × List Nat)) : Nat → List Nat → List Nat
  | 0, B => B
  | k + 1, B => rbB T k (B ++ [upM B B.length (T.getD B.length ([], [])).1])
def rbBits (l : List Oper) : List Nat := rbB (rtab .any l.toArray).2 l.length []
def rbOk (l : List Oper) : Bool :=
  let T := (rtab .any l.toArray).2
  let B := rbBits l
  let O := List.range l.length
  waitsOk T B && baseOk T O && (lof T.length O (fun _ => false) == List.replicate l.length false) && Region.noSelect l.toArray &&
  O.all (fun i => match l[i]? with
    | some o => (o.looksAt l.toArray).all (fun t => match rbW l t l.length with
        | some j => (decide (j < i) && (B.getD i 0).testBit j) || (decide (i < j) && (B.getD j 0).testBit i)
        | none => true) && (match o.dst with | some t => rbW l t l.length == some i | none => true)
    | none => false)
/-- The relation: what is listed, the values that hang on the order (each by its operation's number), the world. -/
abbrev RbC := (Nat → Bool) → (Nat → Value) → World → Prop
def usUp (us : Nat → Value) (i : Nat) (u : Value) : Nat → Value := fun j => if j = i then u else us j
/-- What an operation, carried out, comes to: v: its value; none: one that hangs on the order. -/
def rbUpon (P : Program) (C : RbC) (b : Nat → Bool) (us : Nat → Value) (i : Nat) (v : Option Value) : Result Next → Prop
  | .ok (.value u) w' => match v with
    | some v => u = v ∧ C (up b i) us w'
    | none => C (up b i) (usUp us i u) w'
  | .ok .skip w' => v = some undef ∧ C (up b i) us w'
  | .ok (.enter f args) w' => match v with
    | some v => Calls P f args w' (fun e w'' => e = .returned v ∧ C (up b i) us w'')
    | none => Calls P f args w' (fun e w'' => ∃ u, e = .returned u ∧ C (up b i) (usUp us i u) w'')
  | _ => False
/-- Operation i, in the text's order: what it yields, in every world of the relation in which it is not listed and all that it waits for are. -/
def rbOp (P : Program) (B : List Nat) (C : RbC) (i : Nat) (o : Oper) (A : (Nat → Value) → Act) (v : Option Value) : Prop :=
  ∀ b us w, b i = false → (∀ j, j < i → (B.getD i 0).testBit j = true → b j = true) → C b us w → rbUpon P C b us i v ((execOp (A us).eval o).run P w)
def rbOff (C : RbC) (i : Nat) : Prop := ∀ b us w, C b us w → C (up b i) us w
def rbV (us : Nat → Value) (i : Nat) (v : Option Value) : Value := match v with
  | some v => v
  | none => us i
def rbL (P : Program) (ops : Array Oper) (B : List Nat) (C : RbC) (Q : ((Nat → Value) → Act) → Prop) : Nat → List Oper → ((Nat → Value) → Act) → Prop
  | _, [], A => Q A
  | i, o :: rest, A =>
    ((∀ us, Region.wanted o (yielded ops (A us).tmps) = true) ∧ ∃ v, rbOp P B C i o A v ∧ rbL P ops B C Q (i + 1) rest (fun us => (A us).put o.dst (rbV us i v))) ∨
    ((∀ us, Region.wanted o (yielded ops (A us).tmps) = false) ∧ rbOff C i ∧ rbL P ops B C Q (i + 1) rest (fun us => (A us).put o.dst undef))
/-- The frame behind the first operations. -/
def rbFrame (a : Act) : List Oper → List Value → Act
  | o :: l, v :: vs => rbFrame (a.put o.dst v) l vs
  | _, _ => a
/-- The values, by the operations' numbers from i on. -/
def rbVals (us : Nat → Value) : Nat → List (Option Value) → List Value
  | _, [] => []
  | i, v :: vs => rbV us i v :: rbVals us (i + 1) vs
theorem rbVals_len (us : Nat → Value) : ∀ (vs : List (Option Value)) (i : Nat), (rbVals us i vs).length = vs.length
  | [], i => rfl
  | v :: vs, i => by simp [rbVals, rbVals_len us vs (i + 1)]
theorem rbVals_get (us : Nat → Value) : ∀ (vs : List (Option Value)) (i k : Nat), (rbVals us i vs)[k]? = (vs[k]?).map (rbV us (i + k))
  | [], i, k => by simp [rbVals]
  | v :: vs, i, 0 => by simp [rbVals]
  | v :: vs, i, k + 1 => by
    simp only [rbVals, List.getElem?_cons_succ]
    rw [rbVals_get us vs (i + 1) k, show i + 1 + k = i + (k + 1) from by omega]
theorem rbVals_take (us : Nat → Value) : ∀ (vs : List (Option Value)) (i k : Nat), rbVals us i (vs.take k) = (rbVals us i vs).take k
  | [], i, k => by simp [rbVals]
  | v :: vs, i, 0 => by simp [rbVals]
  | v :: vs, i, k + 1 => by simp [rbVals, rbVals_take us vs (i + 1) k]
theorem rbL_vals {ops : Array Oper} {B : List Nat} {C : RbC} {Q : ((Nat → Value) → Act) → Prop} : ∀ (rest : List Oper) (i : Nat) (A : (Nat → Value) → Act), rbL P ops B C Q i rest A →
    ∃ vs : List (Option Value), vs.length = rest.length ∧ Q (fun us => rbFrame (A us) rest (rbVals us i vs)) ∧ ∀ k o v, rest[k]? = some o → vs[k]? = some v →
      ((∀ us, Region.wanted o (yielded ops (rbFrame (A us) (rest.take k) (rbVals us i (vs.take k))).tmps) = true) ∧ rbOp P B C (i + k) o (fun us => rbFrame (A us) (rest.take k) (rbVals us i (vs.take k))) v) ∨
      ((∀ us, Region.wanted o (yielded ops (rbFrame (A us) (rest.take k) (rbVals us i (vs.take k))).tmps) = false) ∧ v = some undef ∧ rbOff C (i + k))
  | [], i, A, h => ⟨[], rfl, h, fun k o v hk => by simp at hk⟩
  | o :: rest, i, A, h => by
    unfold rbL at h
    rcases h with ⟨hw, v, h1, h2⟩ | ⟨hw, h1, h2⟩
    · obtain ⟨vs, e1, e2, e3⟩ := rbL_vals rest (i + 1) _ h2
      refine ⟨v :: vs, by simp [e1], e2, fun k o' v' hk hv => ?_⟩
      cases k with
      | zero =>
        simp at hk hv
        subst hk hv
        exact .inl ⟨hw, h1⟩
      | succ k =>
        have := e3 k o' v' (by simpa using hk) (by simpa using hv)
        rw [show i + (k + 1) = i + 1 + k from by omega]
        exact this
    · obtain ⟨vs, e1, e2, e3⟩ := rbL_vals rest (i + 1) _ h2
      refine ⟨some undef :: vs, by simp [e1], e2, fun k o' v' hk hv => ?_⟩
      cases k with
      | zero =>
        simp at hk hv
        subst hk hv
        exact .inr ⟨hw, rfl, h1⟩
      | succ k =>
        have := e3 k o' v' (by simpa using hk) (by simpa using hv)
        rw [show i + (k + 1) = i + 1 + k from by omega]
        exact this
/-- A slot, with these listed. -/
def rbSlot (l : List Oper) (vs : List Value) (a : Act) (b : Nat → Bool) (t : Tmp) : Option Value :=
  match rbW l t l.length with
  | some j => if b j = true then (if t < a.tmps.size then vs[j]? else none) else a.tmps[t]?
  | none => a.tmps[t]?
theorem rbW_lt {l : List Oper} {t : Tmp} : ∀ {n j : Nat}, rbW l t n = some j → j < n ∧ (l[j]?).bind (·.dst) = some t
  | 0, j, h => by cases h
  | n + 1, j, h => by
    unfold rbW at h
    by_cases c : ((l[n]?).bind (·.dst)) = some t
    · rw [if_pos c] at h
      obtain rfl := Option.some.inj h
      exact ⟨Nat.lt_succ_self _, c⟩
    · rw [if_neg c] at h
      obtain ⟨h1, h2⟩ := rbW_lt h
      exact ⟨by omega, h2⟩
theorem put_slot (a : Act) (d : Option Tmp) (v : Value) (t : Tmp) : (a.put d v).tmps[t]? = if d = some t then (if t < a.tmps.size then some v else none) else a.tmps[t]? := by
  cases d with
  | none => simp [Act.put]
  | some s =>
    simp only [Act.put, Array.getElem?_setIfInBounds]
    by_cases c : s = t
    · subst c; simp
    · simp [c]
theorem put_size (a : Act) (d : Option Tmp) (v : Value) : (a.put d v).tmps.size = a.tmps.size ∧ (a.put d v).defers = a.defers := by
  cases d with
  | none => exact ⟨rfl, rfl⟩
  | some s => exact ⟨by simp [Act.put], rfl⟩
theorem frame_snoc : ∀ (l : List Oper) (vs : List Value) (a : Act) (k : Nat) (o : Oper) (v : Value), l[k]? = some o → vs[k]? = some v → rbFrame a (l.take (k + 1)) (vs.take (k + 1)) = (rbFrame a (l.take k) (vs.take k)).put o.dst v
  | [], vs, a, k, o, v, h, _ => by simp at h
  | x :: l, [], a, k, o, v, _, h => by simp at h
  | x :: l, y :: vs, a, 0, o, v, h, hv => by
    simp at h hv; subst h hv; simp [rbFrame]
  | x :: l, y :: vs, a, k + 1, o, v, h, hv => by
    have := frame_snoc l vs (a.put x.dst y) k o v (by simpa using h) (by simpa using hv)
    simpa [rbFrame] using this
theorem frame_slot {l : List Oper} {vs : List Value} {a : Act} (hl : vs.length = l.length) (hu : ∀ i o t, l[i]? = some o → o.dst = some t → rbW l t l.length = some i) : ∀ k, k ≤ l.length →
    (rbFrame a (l.take k) (vs.take k)).tmps.size = a.tmps.size ∧ (rbFrame a (l.take k) (vs.take k)).defers = a.defers ∧ ∀ t, (rbFrame a (l.take k) (vs.take k)).tmps[t]? = rbSlot l vs a (fun j => decide (j < k)) t
  | 0, _ => by
    refine ⟨by simp [rbFrame], by simp [rbFrame], fun t => ?_⟩
    unfold rbSlot
    simp only [List.take_zero, rbFrame]
    cases rbW l t l.length <;> simp
  | k + 1, hk => by
    obtain ⟨h1, h2, h3⟩ := frame_slot hl hu k (by omega)
    obtain ⟨o, ho⟩ : ∃ o, l[k]? = some o := ⟨_, List.getElem?_eq_getElem (by omega)⟩
    obtain ⟨v, hv⟩ : ∃ v, vs[k]? = some v := ⟨_, List.getElem?_eq_getElem (by omega)⟩
    rw [frame_snoc l vs a k o v ho hv]
    refine ⟨(put_size _ _ _).1.trans h1, (put_size _ _ _).2.trans h2, fun t => ?_⟩
    rw [put_slot, h3 t, h1]
    unfold rbSlot
    by_cases c : o.dst = some t
    · rw [if_pos c, hu k o t ho c]; simp [hv]
    · rw [if_neg c]
      cases e : rbW l t l.length with
      | none => rfl
      | some j =>
        have hjk : j ≠ k := by
          rintro rfl
          have := (rbW_lt e).2
          rw [ho] at this
          exact c (by simpa using this)
        have : (j < k + 1) ↔ (j < k) := by omega
        simp only [this]
/-- Two frames that rb_agree on what an operation looks at. -/
theorem rb_agree {ops : Array Oper} {o : Oper} {a a' : Act} (hs : ∀ cs b, o.op ≠ .select cs b) (h : ∀ t ∈ o.looksAt ops, a.tmps[t]? = a'.tmps[t]?) :
    execOp a.eval o = execOp a'.eval o ∧ Region.wanted o (yielded ops a.tmps) = Region.wanted o (yielded ops a'.tmps) := by
  constructor
  · refine execOp_congr o hs (fun x hx => ?_)
    cases x with
    | tmp t =>
      have := h t (List.mem_append_left _ (List.mem_filterMap.2 ⟨.tmp t, by simpa using hx, rfl⟩))
      simp only [Act.eval, Array.getD_eq_getD_getElem?, this]
    | _ => rfl
  · unfold Region.wanted
    cases hg : o.guard with
    | none => rfl
    | some gw =>
      obtain ⟨g, want⟩ := gw
      have : yielded ops a.tmps g = yielded ops a'.tmps g := by
        unfold yielded
        cases hd : (ops[g]?).bind (·.dst) with
        | none => rfl
        | some t =>
          have := h t (List.mem_append_right _ (by rw [hg]; simp [hd]))
          simp only [Option.bind_some, this]
      simp only [this]
/-- THE REGION: by one walk of the text's order. -/
theorem region_by {id : Nat} {l : List Oper} {Q : Exit → Act → World → Prop} {a : Act} {w : World} (C : RbC) (hm : P.follows .mixedOrders = true) (hB : rbOk l = true) (hC : ∃ us, C (fun _ => false) us w.drew)
    (h : rbL P l.toArray (rbBits l) C (fun A => ∀ b us w', (∀ i, i < l.length → b i = true) → C b us w' → Q .normal (A us) w') 0 l (fun _ => a)) : (Code.region id l.toArray true).wp P Q a w := by
  obtain ⟨vs, hl, hend, hops⟩ := rbL_vals l 0 (fun _ => a) h
  simp only [rbOk, Bool.and_eq_true, beq_iff_eq, List.all_eq_true, List.mem_range] at hB
  obtain ⟨⟨⟨⟨hw, hk⟩, hlof⟩, hns⟩, hall⟩ := hB
  have hTl : (rtab .any l.toArray).2.length = l.length := by simp [rtab]
  have hlv : ∀ us, (rbVals us 0 vs).length = l.length := fun us => (rbVals_len us vs 0).trans hl
  have hu : ∀ i o t, l[i]? = some o → o.dst = some t → rbW l t l.length = some i := by
    intro i o t ho hd
    have hi := (List.getElem?_eq_some_iff.1 ho).1
    have := hall i hi
    rw [ho] at this
    simp only [hd, Bool.and_eq_true, beq_iff_eq] at this
    exact this.2
  refine start_ (n := l.length) (S := fun _ => True) (ds := []) (List.replicate l.length false).toArray hm (by simp) (by simp) trivial (fun _ => ?_)
  obtain ⟨us0, hC⟩ := hC
  refine inv_ (List.range l.length) (fun b a' w' => ∃ us, C b us w' ∧ a'.defers = a.defers ∧ a'.tmps.size = a.tmps.size ∧ ∀ t, a'.tmps[t]? = rbSlot l (rbVals us 0 vs) a b t) rfl hw hk (by simp [hlof]) ⟨us0, hC, rfl, rfl, fun t => by unfold rbSlot; cases rbW l t l.length <;> rfl⟩ (fun i hi => ?_) (fun b a' w' hall' hI => ?_)
  · have hil : i < l.length := List.mem_range.1 hi
    rintro b a' w' ⟨us, hCb, hde, hsz, hsl⟩ hbi hon hoff
    obtain ⟨o, ho⟩ : ∃ o, l[i]? = some o := ⟨_, List.getElem?_eq_getElem hil⟩
    obtain ⟨v, hv⟩ : ∃ v, vs[i]? = some v := ⟨_, List.getElem?_eq_getElem (by omega)⟩
    have hvu : (rbVals us 0 vs)[i]? = some (rbV us i v) := by rw [rbVals_get, hv, Nat.zero_add]; rfl
    refine ⟨o, by simpa using ho, fun K hK => ?_⟩
    obtain ⟨f1, f2, f3⟩ := frame_slot (hlv us) hu i (by omega) (a := a)
    have hsel : ∀ cs b, o.op ≠ .select cs b := fun cs b => Region.noSelect_spec hns i o cs b (by simpa using ho)
    have hchk := hall i hil
    rw [ho] at hchk
    simp only [Bool.and_eq_true, List.all_eq_true] at hchk
    have hin : ∀ j, j < l.length → (List.range l.length).contains j = true := fun j hj => by simp [hj]
    have hag : ∀ t ∈ o.looksAt l.toArray, a'.tmps[t]? = (rbFrame a (l.take i) ((rbVals us 0 vs).take i)).tmps[t]? := by
      intro t ht
      rw [hsl t, f3 t]
      unfold rbSlot
      have hc := hchk.1 t ht
      cases e : rbW l t l.length with
      | none => rfl
      | some j =>
        rw [e] at hc
        simp only [Bool.or_eq_true, Bool.and_eq_true, decide_eq_true_eq] at hc
        have hjl := (rbW_lt e).1
        rcases hc with ⟨h1, h2⟩ | ⟨h1, h2⟩
        · have hb : b j = true := hon j (by rw [hin j hjl, h2]; rfl)
          simp only [hb, h1, decide_true]
        · have hb : b j = false := hoff j (by rw [hin j hjl, h2]; rfl)
          have h3 : ¬ j < i := by omega
          simp only [hb, h3, decide_false]
    obtain ⟨hex, hwt⟩ := rb_agree (ops := l.toArray) hsel hag
    have hnext : ∀ (us' : Nat → Value) (x : Value) w'', (∀ j, j ≠ i → us' j = us j) → x = rbV us' i v → C (up b i) us' w'' → (∃ us, C (up b i) us w'' ∧ (a'.put o.dst x).defers = a.defers ∧ (a'.put o.dst x).tmps.size = a.tmps.size ∧ ∀ t, (a'.put o.dst x).tmps[t]? = rbSlot l (rbVals us 0 vs) a (up b i) t) := by
      rintro us' x w'' hus rfl hC'
      refine ⟨us', hC', (put_size _ _ _).2.trans hde, (put_size _ _ _).1.trans hsz, fun t => ?_⟩
      rw [put_slot, hsl t, hsz]
      unfold rbSlot
      by_cases c : o.dst = some t
      · rw [if_pos c, hu i o t ho c]; simp [up_self, rbVals_get, hv]
      · rw [if_neg c]
        cases e : rbW l t l.length with
        | none => rfl
        | some j =>
          have hji : j ≠ i := by
            rintro rfl
            have := (rbW_lt e).2
            rw [ho] at this
            exact c (by simpa using this)
          have hvj : (rbVals us 0 vs)[j]? = (rbVals us' 0 vs)[j]? := by
            rw [rbVals_get, rbVals_get]
            congr 1
            funext vv
            cases vv with
            | some v => rfl
            | none => simp only [rbV]; rw [Nat.zero_add, hus j hji]
          simp only [up_ne hji, hvj]
    rcases hops i o v ho hv with ⟨hwn, hop⟩ | ⟨hwn, hvu2, hofC⟩
    · rw [hwt]
      have hwn' := hwn us
      rw [rbVals_take] at hwn'
      rw [if_pos hwn']
      rw [Nat.zero_add] at hop
      have hr := hop b us w' hbi (fun j hj hjb => hon j (by rw [hin j (by omega), hjb]; rfl)) hCb
      dsimp only at hr
      rw [rbVals_take] at hr
      unfold Oper.wp
      rw [hex]
      generalize (execOp (rbFrame a (l.take i) ((rbVals us 0 vs).take i)).eval o).run P w' = r at *
      cases r with
      | ok n w'' =>
        cases n <;> simp only [rbUpon] at hr <;> simp only [Oper.upon]
        case value u =>
          cases v with
          | some v => exact hK _ _ (hnext us _ _ (fun _ _ => rfl) hr.1 hr.2)
          | none => exact hK _ _ (hnext (usUp us i u) _ _ (fun j hj => if_neg hj) (by simp [rbV, usUp]) hr)
        case skip => exact hK _ _ (hnext us _ _ (fun _ _ => rfl) (by rw [hr.1]; rfl) hr.2)
        case enter f args =>
          cases v with
          | some v => exact hr.mono fun e w3 ⟨he, hC3⟩ => by subst he; exact hK _ _ (hnext us _ _ (fun _ _ => rfl) rfl hC3)
          | none => exact hr.mono fun e w3 ⟨u, he, hC3⟩ => by subst he; exact hK _ _ (hnext (usUp us i u) _ _ (fun j hj => if_neg hj) (by simp [rbV, usUp]) hC3)
      | halt x w'' => simp only [rbUpon] at hr
    · rw [hwt]
      have hwn' := hwn us
      rw [rbVals_take] at hwn'
      rw [if_neg (by rw [hwn']; simp)]
      rw [Nat.zero_add] at hofC
      exact hK _ _ (hnext us _ _ (fun _ _ => rfl) (by rw [hvu2]; rfl) (hofC b us w' hCb))
  · obtain ⟨us, hCb, hde, hsz, hsl⟩ := hI
    have hb : ∀ i, i < l.length → b i = true := fun i hi => hall' i (by simp [hi])
    obtain ⟨f1, f2, f3⟩ := frame_slot (hlv us) hu l.length (Nat.le_refl _) (a := a)
    rw [List.take_of_length_le (Nat.le_refl _), List.take_of_length_le (by rw [hlv us]; exact Nat.le_refl _)] at f1 f2 f3
    have : a' = rbFrame a l (rbVals us 0 vs) := by
      have e1 : a'.tmps = (rbFrame a l (rbVals us 0 vs)).tmps := by
        apply Array.ext_getElem?
        intro t
        rw [hsl t, f3 t]
        unfold rbSlot
        cases e : rbW l t l.length with
        | none => rfl
        | some j => simp only [hb j (rbW_lt e).1, (rbW_lt e).1, decide_true]
      have e2 : a'.defers = (rbFrame a l (rbVals us 0 vs)).defers := hde.trans f2.symm
      cases a'; cases hr : rbFrame a l (rbVals us 0 vs); rw [hr] at e1 e2; simp only at e1 e2; rw [e1, e2]
    rw [this]
    exact hend b us w' hb hCb
section
variable {ops : Array Oper} {B : List Nat} {C : RbC} {Q : ((Nat → Value) → Act) → Prop} {i : Nat} {o : Oper} {rest : List Oper} {A : (Nat → Value) → Act} {v : Value}
theorem rb_want (hw : ∀ us, Region.wanted o (yielded ops (A us).tmps) = true) (h : ∃ v, rbOp P B C i o A (some v) ∧ ∃ A', (∀ us, (A us).put o.dst v = A' us) ∧ rbL P ops B C Q (i + 1) rest A') : rbL P ops B C Q i (o :: rest) A := by
  obtain ⟨v, h1, A', hA, h2⟩ := h
  rw [show A' = fun us => (A us).put o.dst (rbV us i (some v)) from (funext hA).symm] at h2
  unfold rbL; exact .inl ⟨hw, some v, h1, h2⟩
theorem rb_open (hw : ∀ us, Region.wanted o (yielded ops (A us).tmps) = true) (h1 : rbOp P B C i o A none) (h : ∃ A', (∀ us, (A us).put o.dst (us i) = A' us) ∧ rbL P ops B C Q (i + 1) rest A') : rbL P ops B C Q i (o :: rest) A := by
  obtain ⟨A', hA, h2⟩ := h
  rw [show A' = fun us => (A us).put o.dst (rbV us i none) from (funext hA).symm] at h2
  unfold rbL; exact .inl ⟨hw, none, h1, h2⟩
theorem rb_skip (hw : ∀ us, Region.wanted o (yielded ops (A us).tmps) = false) (h1 : rbOff C i) (h : ∃ A', (∀ us, (A us).put o.dst undef = A' us) ∧ rbL P ops B C Q (i + 1) rest A') : rbL P ops B C Q i (o :: rest) A := by
  obtain ⟨A', hA, h2⟩ := h
  rw [show A' = fun us => (A us).put o.dst undef from (funext hA).symm] at h2
  unfold rbL; exact .inr ⟨hw, h1, h2⟩
theorem rb_done (h : Q A) : rbL P ops B C Q i [] A := h
theorem rb_pure (hE : rbOff C i) (h : ∀ b us w, C b us w → (execOp (A us).eval o).run P w = .ok (.value v) w) : rbOp P B C i o A (some v) := fun b us w _ _ hC => by
  rw [h b us w hC]; exact ⟨rfl, hE b us w hC⟩
theorem rb_call {f : FuncId} {args : (Nat → Value) → Array Value} (hrun : ∀ us w, (execOp (A us).eval o).run P w = .ok (.enter f (args us)) w)
    (h : ∀ b us w, b i = false → (∀ j, j < i → (B.getD i 0).testBit j = true → b j = true) → C b us w → Calls P f (args us) w fun e w' => e = .returned v ∧ C (up b i) us w') : rbOp P B C i o A (some v) := fun b us w hb hon hC => by
  rw [hrun us w]; exact h b us w hb hon hC
/-- A value that hangs on the order (a new variable). -/
theorem rb_new (h : ∀ b us w, b i = false → (∀ j, j < i → (B.getD i 0).testBit j = true → b j = true) → C b us w → ∃ u w', (execOp (A us).eval o).run P w = .ok (.value u) w' ∧ C (up b i) (usUp us i u) w') : rbOp P B C i o A none := fun b us w hb hon hC => by
  obtain ⟨u, w', e, hC'⟩ := h b us w hb hon hC
  rw [e]; exact hC'
/-- A store. -/
theorem rb_store (h : ∀ b us w, b i = false → (∀ j, j < i → (B.getD i 0).testBit j = true → b j = true) → C b us w → ∃ w', (execOp (A us).eval o).run P w = .ok .skip w' ∧ C (up b i) us w') : rbOp P B C i o A (some undef) := fun b us w hb hon hC => by
  obtain ⟨w', e, hC'⟩ := h b us w hb hon hC
  rw [e]; exact ⟨rfl, hC'⟩
theorem rb_enters {f : FuncId} {fn : Func} (hf : P.funcs[f]? = some fn) (hname : (fn.name == "runtime.NumGoroutine") = false) (hb : fn.body.isSome = true) {a : Act} {dst : Option Tmp} {xs : List Operand} {ats : Array TypeId} {ty : TypeId} {pos : String} {after : Array Edge} {guard : Option (Nat × Bool)} {args : List Value} (ha : xs.map a.eval = args) (w : World) :
    (execOp a.eval { dst, op := .call { callee := .value (.func f), args := xs.toArray, argTypes := ats }, type := ty, pos, after, guard }).run P w = .ok (.enter f args.toArray) w := by
  subst ha
  rw [execOp_call_go]
  have := enters_ hf hname hb (xs.map a.eval).toArray w
  simpa using this
end
end RegBy
end Go.Proofs.Ytddkoimaghcbeaa.PVmSteps
