-- Written by a program of this session (wip/bin/patch_print.py): a turned copy of the kit's printer. Not trusted: Lean checks it.
import Derived.Test.YtofhghpahmeolaaPHistWholex0
import Derived.Test.YtofhghpahmeolaaPHistWholex1
namespace Go.Proofs.Ytofhghpahmeolaa.PHistWhole
open Go.RowKit Go.Proofs.YtofhghpahmeolaaW.PrintWords Go.Proofs.YtofhghpahmeolaaW.PrintLast Go.Proofs.YtofhghpahmeolaaW.PrintMore
attribute [local go_sem] max2_int min2_int max_two min_two max_three min_three max_four min_four   -- for this text's walks alone
set_option linter.unusedVariables false
set_option linter.unusedSimpArgs false

/-! ### inquestlaw14_HistWhole: function 6 -/
/-! A region of open order, by one walk of the text's order and one relation over what is listed: the values are told once, the world by the listed calls alone. -/
section RegBy
variable {P : Program}
/-- Who fills a slot. -/
def rbW (l : List Oper) (t : Tmp) : Nat → Option Nat
  | 0 => none
  | k + 1 => if ((l[k]?).bind (·.dst)) = some t then some k else rbW l t k
def rbB (T : List (List Nat × List Nat)) : Nat → List Nat → List Nat
  | 0, B => B
  | k + 1, B => rbB T k (B ++ [upM B B.length (T.getD B.length ([], [])).1])
def rbBits (l : List Oper) : List Nat := rbB (rtab .any l.toArray).2 l.length []
def rbOk (l : List Oper) : Bool :=
  let T := (rtab .any l.toArray).2
  let B := rbBits l
  let O := List.range l.length
  waitsOk T B && baseOk T O && (lof T.length O (fun _ => false) == List.replicate l.length false) && Region.noSelect l.toArray &&
  O.all (fun i => match l[i]? with
    | some o => (o.looksAt l.toArray).all (fun t => match rbW l t l.length with
        | some j => (decide (j < i) && (B.getD i 0).testBit j) || (decide (i < j) && (B.getD j 0).testBit i)
        | none => true) && (match o.dst with | some t => rbW l t l.length == some i | none => true)
    | none => false)
/-- The relation: what is listed, the values that hang on the order (each by its operation's number), the world. -/
abbrev RbC := (Nat → Bool) → (Nat → Value) → World → Prop
def usUp (us : Nat → Value) (i : Nat) (u : Value) : Nat → Value := fun j => if j = i then u else us j
/-- What an operation, carried out, comes to: v: its value; none: one that hangs on the order. -/
def rbUpon (P : Program) (C : RbC) (b : Nat → Bool) (us : Nat → Value) (i : Nat) (v : Option Value) : Result Next → Prop
  | .ok (.value u) w' => match v with
    | some v => u = v ∧ C (up b i) us w'
    | none => C (up b i) (usUp us i u) w'
  | .ok .skip w' => v = some undef ∧ C (up b i) us w'
  | .ok (.enter f args) w' => match v with
    | some v => Calls P f args w' (fun e w'' => e = .returned v ∧ C (up b i) us w'')
    | none => Calls P f args w' (fun e w'' => ∃ u, e = .returned u ∧ C (up b i) (usUp us i u) w'')
  | _ => False
/-- Operation i, in the text's order: what it yields, in every world of the relation in which it is not listed and all that it waits for are. -/
def rbOp (P : Program) (B : List Nat) (C : RbC) (i : Nat) (o : Oper) (A : (Nat → Value) → Act) (v : Option Value) : Prop :=
  ∀ b us w, b i = false → (∀ j, j < i → (B.getD i 0).testBit j = true → b j = true) → C b us w → rbUpon P C b us i v ((execOp (A us).eval o).run P w)
def rbOff (C : RbC) (i : Nat) : Prop := ∀ b us w, C b us w → C (up b i) us w
def rbV (us : Nat → Value) (i : Nat) (v : Option Value) : Value := match v with
  | some v => v
  | none => us i
def rbL (P : Program) (ops : Array Oper) (B : List Nat) (C : RbC) (Q : ((Nat → Value) → Act) → Prop) : Nat → List Oper → ((Nat → Value) → Act) → Prop
  | _, [], A => Q A
  | i, o :: rest, A =>
    ((∀ us, Region.wanted o (yielded ops (A us).tmps) = true) ∧ ∃ v, rbOp P B C i o A v ∧ rbL P ops B C Q (i + 1) rest (fun us => (A us).put o.dst (rbV us i v))) ∨
    ((∀ us, Region.wanted o (yielded ops (A us).tmps) = false) ∧ rbOff C i ∧ rbL P ops B C Q (i + 1) rest (fun us => (A us).put o.dst undef))
/-- The frame behind the first operations. -/
def rbFrame (a : Act) : List Oper → List Value → Act
  | o :: l, v :: vs => rbFrame (a.put o.dst v) l vs
  | _, _ => a
/-- The values, by the operations' numbers from i on. -/
def rbVals (us : Nat → Value) : Nat → List (Option Value) → List Value
  | _, [] => []
  | i, v :: vs => rbV us i v :: rbVals us (i + 1) vs
theorem rbVals_len (us : Nat → Value) : ∀ (vs : List (Option Value)) (i : Nat), (rbVals us i vs).length = vs.length
  | [], i => rfl
  | v :: vs, i => by simp [rbVals, rbVals_len us vs (i + 1)]
theorem rbVals_get (us : Nat → Value) : ∀ (vs : List (Option Value)) (i k : Nat), (rbVals us i vs)[k]? = (vs[k]?).map (rbV us (i + k))
  | [], i, k => by simp [rbVals]
  | v :: vs, i, 0 => by simp [rbVals]
  | v :: vs, i, k + 1 => by
    simp only [rbVals, List.getElem?_cons_succ]
    rw [rbVals_get us vs (i + 1) k, show i + 1 + k = i + (k + 1) from by omega]
theorem rbVals_take (us : Nat → Value) : ∀ (vs : List (Option Value)) (i k : Nat), rbVals us i (vs.take k) = (rbVals us i vs).take k
  | [], i, k => by simp [rbVals]
  | v :: vs, i, 0 => by simp [rbVals]
  | v :: vs, i, k + 1 => by simp [rbVals, rbVals_take us vs (i + 1) k]
theorem rbL_vals {ops : Array Oper} {B : List Nat} {C : RbC} {Q : ((Nat → Value) → Act) → Prop} : ∀ (rest : List Oper) (i : Nat) (A : (Nat → Value) → Act), rbL P ops B C Q i rest A →
    ∃ vs : List (Option Value), vs.length = rest.length ∧ Q (fun us => rbFrame (A us) rest (rbVals us i vs)) ∧ ∀ k o v, rest[k]? = some o → vs[k]? = some v →
      ((∀ us, Region.wanted o (yielded ops (rbFrame (A us) (rest.take k) (rbVals us i (vs.take k))).tmps) = true) ∧ rbOp P B C (i + k) o (fun us => rbFrame (A us) (rest.take k) (rbVals us i (vs.take k))) v) ∨
      ((∀ us, Region.wanted o (yielded ops (rbFrame (A us) (rest.take k) (rbVals us i (vs.take k))).tmps) = false) ∧ v = some undef ∧ rbOff C (i + k))
  | [], i, A, h => ⟨[], rfl, h, fun k o v hk => by simp at hk⟩
  | o :: rest, i, A, h => by
    unfold rbL at h
    rcases h with ⟨hw, v, h1, h2⟩ | ⟨hw, h1, h2⟩
    · obtain ⟨vs, e1, e2, e3⟩ := rbL_vals rest (i + 1) _ h2
      refine ⟨v :: vs, by simp [e1], e2, fun k o' v' hk hv => ?_⟩
      cases k with
      | zero =>
        simp at hk hv
        subst hk hv
        exact .inl ⟨hw, h1⟩
      | succ k =>
        have := e3 k o' v' (by simpa using hk) (by simpa using hv)
        rw [show i + (k + 1) = i + 1 + k from by omega]
        exact this
    · obtain ⟨vs, e1, e2, e3⟩ := rbL_vals rest (i + 1) _ h2
      refine ⟨some undef :: vs, by simp [e1], e2, fun k o' v' hk hv => ?_⟩
      cases k with
      | zero =>
        simp at hk hv
        subst hk hv
        exact .inr ⟨hw, rfl, h1⟩
      | succ k =>
        have := e3 k o' v' (by simpa using hk) (by simpa using hv)
        rw [show i + (k + 1) = i + 1 + k from by omega]
        exact this
/-- A slot, with these listed. -/
def rbSlot (l : List Oper) (vs : List Value) (a : Act) (b : Nat → Bool) (t : Tmp) : Option Value :=
  match rbW l t l.length with
  | some j => if b j = true then (if t < a.tmps.size then vs[j]? else none) else a.tmps[t]?
  | none => a.tmps[t]?
theorem rbW_lt {l : List Oper} {t : Tmp} : ∀ {n j : Nat}, rbW l t n = some j → j < n ∧ (l[j]?).bind (·.dst) = some t
  | 0, j, h => by cases h
  | n + 1, j, h => by
    unfold rbW at h
    by_cases c : ((l[n]?).bind (·.dst)) = some t
    · rw [if_pos c] at h
      obtain rfl := Option.some.inj h
      exact ⟨Nat.lt_succ_self _, c⟩
    · rw [if_neg c] at h
      obtain ⟨h1, h2⟩ := rbW_lt h
      exact ⟨by omega, h2⟩
theorem put_slot (a : Act) (d : Option Tmp) (v : Value) (t : Tmp) : (a.put d v).tmps[t]? = if d = some t then (if t < a.tmps.size then some v else none) else a.tmps[t]? := by
  cases d with
  | none => simp [Act.put]
  | some s =>
    simp only [Act.put, Array.getElem?_setIfInBounds]
    by_cases c : s = t
    · subst c; simp
    · simp [c]
theorem put_size (a : Act) (d : Option Tmp) (v : Value) : (a.put d v).tmps.size = a.tmps.size ∧ (a.put d v).defers = a.defers := by
  cases d with
  | none => exact ⟨rfl, rfl⟩
  | some s => exact ⟨by simp [Act.put], rfl⟩
theorem frame_snoc : ∀ (l : List Oper) (vs : List Value) (a : Act) (k : Nat) (o : Oper) (v : Value), l[k]? = some o → vs[k]? = some v → rbFrame a (l.take (k + 1)) (vs.take (k + 1)) = (rbFrame a (l.take k) (vs.take k)).put o.dst v
  | [], vs, a, k, o, v, h, _ => by simp at h
  | x :: l, [], a, k, o, v, _, h => by simp at h
  | x :: l, y :: vs, a, 0, o, v, h, hv => by
    simp at h hv; subst h hv; simp [rbFrame]
  | x :: l, y :: vs, a, k + 1, o, v, h, hv => by
    have := frame_snoc l vs (a.put x.dst y) k o v (by simpa using h) (by simpa using hv)
    simpa [rbFrame] using this
theorem frame_slot {l : List Oper} {vs : List Value} {a : Act} (hl : vs.length = l.length) (hu : ∀ i o t, l[i]? = some o → o.dst = some t → rbW l t l.length = some i) : ∀ k, k ≤ l.length →
    (rbFrame a (l.take k) (vs.take k)).tmps.size = a.tmps.size ∧ (rbFrame a (l.take k) (vs.take k)).defers = a.defers ∧ ∀ t, (rbFrame a (l.take k) (vs.take k)).tmps[t]? = rbSlot l vs a (fun j => decide (j < k)) t
  | 0, _ => by
    refine ⟨by simp [rbFrame], by simp [rbFrame], fun t => ?_⟩
    unfold rbSlot
    simp only [List.take_zero, rbFrame]
    cases rbW l t l.length <;> simp
  | k + 1, hk => by
    obtain ⟨h1, h2, h3⟩ := frame_slot hl hu k (by omega)
    obtain ⟨o, ho⟩ : ∃ o, l[k]? = some o := ⟨_, List.getElem?_eq_getElem (by omega)⟩
    obtain ⟨v, hv⟩ : ∃ v, vs[k]? = some v := ⟨_, List.getElem?_eq_getElem (by omega)⟩
    rw [frame_snoc l vs a k o v ho hv]
    refine ⟨(put_size _ _ _).1.trans h1, (put_size _ _ _).2.trans h2, fun t => ?_⟩
    rw [put_slot, h3 t, h1]
    unfold rbSlot
    by_cases c : o.dst = some t
    · rw [if_pos c, hu k o t ho c]; simp [hv]
    · rw [if_neg c]
      cases e : rbW l t l.length with
      | none => rfl
      | some j =>
        have hjk : j ≠ k := by
          rintro rfl
          have := (rbW_lt e).2
          rw [ho] at this
          exact c (by simpa using this)
        have : (j < k + 1) ↔ (j < k) := by omega
        simp only [this]
/-- Two frames that rb_agree on what an operation looks at. -/
theorem rb_agree {ops : Array Oper} {o : Oper} {a a' : Act} (hs : ∀ cs b, o.op ≠ .select cs b) (h : ∀ t ∈ o.looksAt ops, a.tmps[t]? = a'.tmps[t]?) :
    execOp a.eval o = execOp a'.eval o ∧ Region.wanted o (yielded ops a.tmps) = Region.wanted o (yielded ops a'.tmps) := by
  constructor
  · refine execOp_congr o hs (fun x hx => ?_)
    cases x with
    | tmp t =>
      have := h t (List.mem_append_left _ (List.mem_filterMap.2 ⟨.tmp t, by simpa using hx, rfl⟩))
      simp only [Act.eval, Array.getD_eq_getD_getElem?, this]
    | _ => rfl
  · unfold Region.wanted
    cases hg : o.guard with
    | none => rfl
    | some gw =>
      obtain ⟨g, want⟩ := gw
      have : yielded ops a.tmps g = yielded ops a'.tmps g := by
        unfold yielded
        cases hd : (ops[g]?).bind (·.dst) with
        | none => rfl
        | some t =>
          have := h t (List.mem_append_right _ (by rw [hg]; simp [hd]))
          simp only [Option.bind_some, this]
      simp only [this]
/-- THE REGION: by one walk of the text's order. -/
theorem region_by {id : Nat} {l : List Oper} {Q : Exit → Act → World → Prop} {a : Act} {w : World} (C : RbC) (hm : P.follows .mixedOrders = true) (hB : rbOk l = true) (hC : ∃ us, C (fun _ => false) us w.drew)
    (h : rbL P l.toArray (rbBits l) C (fun A => ∀ b us w', (∀ i, i < l.length → b i = true) → C b us w' → Q .normal (A us) w') 0 l (fun _ => a)) : (Code.region id l.toArray true).wp P Q a w := by
  obtain ⟨vs, hl, hend, hops⟩ := rbL_vals l 0 (fun _ => a) h
  simp only [rbOk, Bool.and_eq_true, beq_iff_eq, List.all_eq_true, List.mem_range] at hB
  obtain ⟨⟨⟨⟨hw, hk⟩, hlof⟩, hns⟩, hall⟩ := hB
  have hTl : (rtab .any l.toArray).2.length = l.length := by simp [rtab]
  have hlv : ∀ us, (rbVals us 0 vs).length = l.length := fun us => (rbVals_len us vs 0).trans hl
  have hu : ∀ i o t, l[i]? = some o → o.dst = some t → rbW l t l.length = some i := by
    intro i o t ho hd
    have hi := (List.getElem?_eq_some_iff.1 ho).1
    have := hall i hi
    rw [ho] at this
    simp only [hd, Bool.and_eq_true, beq_iff_eq] at this
    exact this.2
  refine start_ (n := l.length) (S := fun _ => True) (ds := []) (List.replicate l.length false).toArray hm (by simp) (by simp) trivial (fun _ => ?_)
  obtain ⟨us0, hC⟩ := hC
  refine inv_ (List.range l.length) (fun b a' w' => ∃ us, C b us w' ∧ a'.defers = a.defers ∧ a'.tmps.size = a.tmps.size ∧ ∀ t, a'.tmps[t]? = rbSlot l (rbVals us 0 vs) a b t) rfl hw hk (by simp [hlof]) ⟨us0, hC, rfl, rfl, fun t => by unfold rbSlot; cases rbW l t l.length <;> rfl⟩ (fun i hi => ?_) (fun b a' w' hall' hI => ?_)
  · have hil : i < l.length := List.mem_range.1 hi
    rintro b a' w' ⟨us, hCb, hde, hsz, hsl⟩ hbi hon hoff
    obtain ⟨o, ho⟩ : ∃ o, l[i]? = some o := ⟨_, List.getElem?_eq_getElem hil⟩
    obtain ⟨v, hv⟩ : ∃ v, vs[i]? = some v := ⟨_, List.getElem?_eq_getElem (by omega)⟩
    have hvu : (rbVals us 0 vs)[i]? = some (rbV us i v) := by rw [rbVals_get, hv, Nat.zero_add]; rfl
    refine ⟨o, by simpa using ho, fun K hK => ?_⟩
    obtain ⟨f1, f2, f3⟩ := frame_slot (hlv us) hu i (by omega) (a := a)
    have hsel : ∀ cs b, o.op ≠ .select cs b := fun cs b => Region.noSelect_spec hns i o cs b (by simpa using ho)
    have hchk := hall i hil
    rw [ho] at hchk
    simp only [Bool.and_eq_true, List.all_eq_true] at hchk
    have hin : ∀ j, j < l.length → (List.range l.length).contains j = true := fun j hj => by simp [hj]
    have hag : ∀ t ∈ o.looksAt l.toArray, a'.tmps[t]? = (rbFrame a (l.take i) ((rbVals us 0 vs).take i)).tmps[t]? := by
      intro t ht
      rw [hsl t, f3 t]
      unfold rbSlot
      have hc := hchk.1 t ht
      cases e : rbW l t l.length with
      | none => rfl
      | some j =>
        rw [e] at hc
        simp only [Bool.or_eq_true, Bool.and_eq_true, decide_eq_true_eq] at hc
        have hjl := (rbW_lt e).1
        rcases hc with ⟨h1, h2⟩ | ⟨h1, h2⟩
        · have hb : b j = true := hon j (by rw [hin j hjl, h2]; rfl)
          simp only [hb, h1, decide_true]
        · have hb : b j = false := hoff j (by rw [hin j hjl, h2]; rfl)
          have h3 : ¬ j < i := by omega
          simp only [hb, h3, decide_false]
    obtain ⟨hex, hwt⟩ := rb_agree (ops := l.toArray) hsel hag
    have hnext : ∀ (us' : Nat → Value) (x : Value) w'', (∀ j, j ≠ i → us' j = us j) → x = rbV us' i v → C (up b i) us' w'' → (∃ us, C (up b i) us w'' ∧ (a'.put o.dst x).defers = a.defers ∧ (a'.put o.dst x).tmps.size = a.tmps.size ∧ ∀ t, (a'.put o.dst x).tmps[t]? = rbSlot l (rbVals us 0 vs) a (up b i) t) := by
      rintro us' x w'' hus rfl hC'
      refine ⟨us', hC', (put_size _ _ _).2.trans hde, (put_size _ _ _).1.trans hsz, fun t => ?_⟩
      rw [put_slot, hsl t, hsz]
      unfold rbSlot
      by_cases c : o.dst = some t
      · rw [if_pos c, hu i o t ho c]; simp [up_self, rbVals_get, hv]
      · rw [if_neg c]
        cases e : rbW l t l.length with
        | none => rfl
        | some j =>
          have hji : j ≠ i := by
            rintro rfl
            have := (rbW_lt e).2
            rw [ho] at this
            exact c (by simpa using this)
          have hvj : (rbVals us 0 vs)[j]? = (rbVals us' 0 vs)[j]? := by
            rw [rbVals_get, rbVals_get]
            congr 1
            funext vv
            cases vv with
            | some v => rfl
            | none => simp only [rbV]; rw [Nat.zero_add, hus j hji]
          simp only [up_ne hji, hvj]
    rcases hops i o v ho hv with ⟨hwn, hop⟩ | ⟨hwn, hvu2, hofC⟩
    · rw [hwt]
      have hwn' := hwn us
      rw [rbVals_take] at hwn'
      rw [if_pos hwn']
      rw [Nat.zero_add] at hop
      have hr := hop b us w' hbi (fun j hj hjb => hon j (by rw [hin j (by omega), hjb]; rfl)) hCb
      dsimp only at hr
      rw [rbVals_take] at hr
      unfold Oper.wp
      rw [hex]
      generalize (execOp (rbFrame a (l.take i) ((rbVals us 0 vs).take i)).eval o).run P w' = r at *
      cases r with
      | ok n w'' =>
        cases n <;> simp only [rbUpon] at hr <;> simp only [Oper.upon]
        case value u =>
          cases v with
          | some v => exact hK _ _ (hnext us _ _ (fun _ _ => rfl) hr.1 hr.2)
          | none => exact hK _ _ (hnext (usUp us i u) _ _ (fun j hj => if_neg hj) (by simp [rbV, usUp]) hr)
        case skip => exact hK _ _ (hnext us _ _ (fun _ _ => rfl) (by rw [hr.1]; rfl) hr.2)
        case enter f args =>
          cases v with
          | some v => exact hr.mono fun e w3 ⟨he, hC3⟩ => by subst he; exact hK _ _ (hnext us _ _ (fun _ _ => rfl) rfl hC3)
          | none => exact hr.mono fun e w3 ⟨u, he, hC3⟩ => by subst he; exact hK _ _ (hnext (usUp us i u) _ _ (fun j hj => if_neg hj) (by simp [rbV, usUp]) hC3)
      | halt x w'' => simp only [rbUpon] at hr
    · rw [hwt]
      have hwn' := hwn us
      rw [rbVals_take] at hwn'
      rw [if_neg (by rw [hwn']; simp)]
      rw [Nat.zero_add] at hofC
      exact hK _ _ (hnext us _ _ (fun _ _ => rfl) (by rw [hvu2]; rfl) (hofC b us w' hCb))
  · obtain ⟨us, hCb, hde, hsz, hsl⟩ := hI
    have hb : ∀ i, i < l.length → b i = true := fun i hi => hall' i (by simp [hi])
    obtain ⟨f1, f2, f3⟩ := frame_slot (hlv us) hu l.length (Nat.le_refl _) (a := a)
    rw [List.take_of_length_le (Nat.le_refl _), List.take_of_length_le (by rw [hlv us]; exact Nat.le_refl _)] at f1 f2 f3
    have : a' = rbFrame a l (rbVals us 0 vs) := by
      have e1 : a'.tmps = (rbFrame a l (rbVals us 0 vs)).tmps := by
        apply Array.ext_getElem?
        intro t
        rw [hsl t, f3 t]
        unfold rbSlot
        cases e : rbW l t l.length with
        | none => rfl
        | some j => simp only [hb j (rbW_lt e).1, (rbW_lt e).1, decide_true]
      have e2 : a'.defers = (rbFrame a l (rbVals us 0 vs)).defers := hde.trans f2.symm
      cases a'; cases hr : rbFrame a l (rbVals us 0 vs); rw [hr] at e1 e2; simp only at e1 e2; rw [e1, e2]
    rw [this]
    exact hend b us w' hb hCb
section
variable {ops : Array Oper} {B : List Nat} {C : RbC} {Q : ((Nat → Value) → Act) → Prop} {i : Nat} {o : Oper} {rest : List Oper} {A : (Nat → Value) → Act} {v : Value}
theorem rb_want (hw : ∀ us, Region.wanted o (yielded ops (A us).tmps) = true) (h : ∃ v, rbOp P B C i o A (some v) ∧ ∃ A', (∀ us, (A us).put o.dst v = A' us) ∧ rbL P ops B C Q (i + 1) rest A') : rbL P ops B C Q i (o :: rest) A := by
  obtain ⟨v, h1, A', hA, h2⟩ := h
  rw [show A' = fun us => (A us).put o.dst (rbV us i (some v)) from (funext hA).symm] at h2
  unfold rbL; exact .inl ⟨hw, some v, h1, h2⟩
theorem rb_open (hw : ∀ us, Region.wanted o (yielded ops (A us).tmps) = true) (h1 : rbOp P B C i o A none) (h : ∃ A', (∀ us, (A us).put o.dst (us i) = A' us) ∧ rbL P ops B C Q (i + 1) rest A') : rbL P ops B C Q i (o :: rest) A := by
  obtain ⟨A', hA, h2⟩ := h
  rw [show A' = fun us => (A us).put o.dst (rbV us i none) from (funext hA).symm] at h2
  unfold rbL; exact .inl ⟨hw, none, h1, h2⟩
theorem rb_skip (hw : ∀ us, Region.wanted o (yielded ops (A us).tmps) = false) (h1 : rbOff C i) (h : ∃ A', (∀ us, (A us).put o.dst undef = A' us) ∧ rbL P ops B C Q (i + 1) rest A') : rbL P ops B C Q i (o :: rest) A := by
  obtain ⟨A', hA, h2⟩ := h
  rw [show A' = fun us => (A us).put o.dst undef from (funext hA).symm] at h2
  unfold rbL; exact .inr ⟨hw, h1, h2⟩
theorem rb_done (h : Q A) : rbL P ops B C Q i [] A := h
theorem rb_pure (hE : rbOff C i) (h : ∀ b us w, C b us w → (execOp (A us).eval o).run P w = .ok (.value v) w) : rbOp P B C i o A (some v) := fun b us w _ _ hC => by
  rw [h b us w hC]; exact ⟨rfl, hE b us w hC⟩
theorem rb_call {f : FuncId} {args : (Nat → Value) → Array Value} (hrun : ∀ us w, (execOp (A us).eval o).run P w = .ok (.enter f (args us)) w)
    (h : ∀ b us w, b i = false → (∀ j, j < i → (B.getD i 0).testBit j = true → b j = true) → C b us w → Calls P f (args us) w fun e w' => e = .returned v ∧ C (up b i) us w') : rbOp P B C i o A (some v) := fun b us w hb hon hC => by
  rw [hrun us w]; exact h b us w hb hon hC
/-- A value that hangs on the order (a new variable). -/
theorem rb_new (h : ∀ b us w, b i = false → (∀ j, j < i → (B.getD i 0).testBit j = true → b j = true) → C b us w → ∃ u w', (execOp (A us).eval o).run P w = .ok (.value u) w' ∧ C (up b i) (usUp us i u) w') : rbOp P B C i o A none := fun b us w hb hon hC => by
  obtain ⟨u, w', e, hC'⟩ := h b us w hb hon hC
  rw [e]; exact hC'
/-- A store. -/
theorem rb_store (h : ∀ b us w, b i = false → (∀ j, j < i → (B.getD i 0).testBit j = true → b j = true) → C b us w → ∃ w', (execOp (A us).eval o).run P w = .ok .skip w' ∧ C (up b i) us w') : rbOp P B C i o A (some undef) := fun b us w hb hon hC => by
  obtain ⟨w', e, hC'⟩ := h b us w hb hon hC
  rw [e]; exact ⟨rfl, hC'⟩
theorem rb_enters {f : FuncId} {fn : Func} (hf : P.funcs[f]? = some fn) (hname : (fn.name == "runtime.NumGoroutine") = false) (hb : fn.body.isSome = true) {a : Act} {dst : Option Tmp} {xs : List Operand} {ats : Array TypeId} {ty : TypeId} {pos : String} {after : Array Edge} {guard : Option (Nat × Bool)} {args : List Value} (ha : xs.map a.eval = args) (w : World) :
    (execOp a.eval { dst, op := .call { callee := .value (.func f), args := xs.toArray, argTypes := ats }, type := ty, pos, after, guard }).run P w = .ok (.enter f args.toArray) w := by
  subst ha
  rw [execOp_call_go]
  have := enters_ hf hname hb (xs.map a.eval).toArray w
  simpa using this
end
end RegBy
theorem hw_eqA44 (d : Nat) (w : World) (x0 y0 : Int) (x1 y1 : Bool) (x2 y2 : Int) (x3 y3 : Int) :
    (Op.equalIn (d + 2) 44 (.agg #[.int .i64 x0, .bool x1, .int .i64 x2, .int .i64 x3]) (.agg #[.int .i64 y0, .bool y1, .int .i64 y2, .int .i64 y3])).run Try.prog w = .ok (x0 == y0 && (x1 == y1 && (x2 == y2 && (x3 == y3)))) w := by
  refine eqA_of Try.underlying44 (by kernel_rfl) ?_
  refine eqf_cons (by rfl) (by go_simp; rfl) (by go_simp; rfl) (by go_simp) ?_
  refine eqf_cons (by rfl) (by go_simp; rfl) (by go_simp; rfl) (by go_simp) ?_
  refine eqf_cons (by rfl) (by go_simp; rfl) (by go_simp; rfl) (by go_simp) ?_
  exact eqf_last (by rfl) (by go_simp; rfl) (by go_simp; rfl) (by go_simp)
theorem hw_neq44 (W : World) (x0 : Int) (x1 : Bool) (x2 x3 : Int) : (binOp .neq 44 (.agg #[.int .i64 x0, .bool x1, .int .i64 x2, .int .i64 x3]) (.agg #[.int .i64 x0, .bool x1, .int .i64 x2, .int .i64 x3])).run Try.prog W = .ok (.bool false) W := by
  simp only [binOp]
  simp [Op.equal, Op.maxDepth, hw_eqA44]
theorem hw_gen {P : World → Prop} (w : World) (F : World → Prop) (hF : F w) (h : ∀ W, F W → P W) : P w := h w hF
def hw_b1 (k : Int) (s : List Int) : List Int := s.set k.toNat (wrap64 (rdOf 0 s k + 1))
def hw_bump (o : S40) (s : List Int) : List Int := if o.f3 = true then hw_b1 o.f6 (hw_b1 o.f5 s) else hw_b1 o.f5 s
def hw_sn : List S40 → List Int → List Int
  | [], s => s
  | o :: r, s => hw_sn r (hw_bump o s)
theorem hw_sn_drop (p : List S40) (i : Nat) (h : i < p.length) (s : List Int) : hw_sn (p.drop i) s = hw_sn (p.drop (i + 1)) (hw_bump (rd_T40 p (i : Int)) s) := by
  rw [List.drop_eq_getElem_cons h, show rd_T40 p (i : Int) = p[i] from by simp [rd_T40, List.getElem?_eq_getElem h]]; rfl
theorem hw_b1_len (k : Int) (s : List Int) : (hw_b1 k s).length = s.length := by simp [hw_b1]
def hw_bef (a b : S40) : Bool := a.f3 && decide (a.f6 < b.f5)
theorem hw_bef_is (a b : S40) : hist_Before.f a.f0 a.f1 a.f2 a.f3 a.f4 a.f5 a.f6 b.f0 b.f1 b.f2 b.f3 b.f4 b.f5 b.f6 = some (hw_bef a b) := by
  unfold hist_Before.f hw_bef
  cases a.f3 <;> simp
structure HwOp (L : List S44) (p : List S40) (i : Nat) (o : S40) : Prop where
  a0 : 0 ≤ o.f5
  a1 : o.f5 < (L.length : Int)
  a2 : rd_T44 L o.f5 = ⟨o.f0, true, o.f1, o.f2⟩
  a3 : 0 < i → (rd_T40 p ((i : Int) - 1)).f5 < o.f5
  b : o.f3 = false → o.f6 = -1 ∧ o.f4 = 0
  c : o.f3 = true → o.f5 < o.f6 ∧ o.f6 < (L.length : Int) ∧ rd_T44 L o.f6 = ⟨o.f0, false, 0, o.f4⟩
structure HwAll (L : List S44) (p : List S40) : Prop where
  ops : ∀ i : Nat, i < p.length → HwOp L p i (rd_T40 p (i : Int))
  hits : ∀ k : Nat, k < L.length → rdOf 0 (hw_sn p (List.replicate L.length 0)) (k : Int) = 1
  pairs : ∀ k i : Nat, k < i → i < p.length → (rd_T40 p (k : Int)).f0 = (rd_T40 p (i : Int)).f0 → hw_bef (rd_T40 p (k : Int)) (rd_T40 p (i : Int)) = true
structure HwS (w4 W : World) (g n cap : Nat) (s : List Int) : Prop where
  hB : Below w4.heap.size w4 W
  bg : w4.heap.size ≤ g
  lg : g < W.heap.size
  hR : (Kd.int .i64).R 3 W w4.heap.size (fun _ => True) (.slice (some ⟨g, 0, none⟩) n cap) s
theorem HwS.came {w4 W W' : World} {g n cap : Nat} {s : List Int} (h : HwS w4 W g n cap s) (hb : Below W.heap.size W W') : HwS w4 W' g n cap s :=
  ⟨below_step h.hB hb, h.bg, Nat.lt_of_lt_of_le h.lg hb.size, Kd.R_below h.hR hb⟩
theorem HwS.put {w4 W : World} {g n cap : Nat} {s : List Int} (h : HwS w4 W g n cap s) (k x : Int) : HwS w4 (W.setCell ⟨g, k.toNat, none⟩ (.int .i64 x)) g n cap (s.set k.toNat x) :=
  ⟨below_set h.hB h.bg, h.bg, by simpa [World.setCell] using h.lg, Kd.R_putn h.hR k x⟩
theorem HwS.at {w4 W : World} {g n cap : Nat} {s : List Int} (h : HwS w4 W g n cap s) (k : Int) (h0 : 0 ≤ k) (h1 : k < (n : Int)) : W.cell? ⟨g, k.toNat, none⟩ = some (.int .i64 (rdOf 0 s k)) ∧ W.frozen? ⟨g, k.toNat, none⟩ = false := Kd.R_celln (0 : Int) h.hR k h0 h1
theorem HwS.max {w4 W : World} {g n cap : Nat} {s : List Int} (h : HwS w4 W g n cap s) (hn : s.length = n) : n ≤ maxLen := by subst hn; exact Kd.C_max (Kd.R_reads' h.hR).2.2
theorem hw_w (n i : Nat) (h : n ≤ maxLen) (hi : i < n) : wrap64 ((i : Int) + 1) = (i : Int) + 1 := by unfold maxLen at h; exact w64_h (by omega) (by omega)
theorem hw_w2 (n i : Nat) (h : n ≤ maxLen) (hi : i < n) : wrap64 ((i : Int) - 1) = (i : Int) - 1 := by unfold maxLen at h; exact w64_h (by omega) (by omega)
theorem hw_far {W : World} {b g k : Nat} {v : Value} {o : Obj} (h : b ≠ g) (hb : W.heap[b]? = some o) : (W.setCell ⟨g, k, none⟩ v).heap[b]? = some o := (Below.heap_setCell W ⟨g, k, none⟩ v b h).trans hb
def hw_c7 (o : S40) : Array Value := #[.int .i64 o.f0, .int .i64 o.f1, .int .i64 o.f2, .bool o.f3, .int .i64 o.f4, .int .i64 o.f5, .int .i64 o.f6]
structure HwC (W : World) (a : Addr) (o : S40) : Prop where
  c0 : W.cell? a = some (.int .i64 o.f0)
  c1 : W.cell? ⟨a.block, a.off + 1, none⟩ = some (.int .i64 o.f1)
  c2 : W.cell? ⟨a.block, a.off + 2, none⟩ = some (.int .i64 o.f2)
  c3 : W.cell? ⟨a.block, a.off + 3, none⟩ = some (.bool o.f3)
  c4 : W.cell? ⟨a.block, a.off + 4, none⟩ = some (.int .i64 o.f4)
  c5 : W.cell? ⟨a.block, a.off + 5, none⟩ = some (.int .i64 o.f5)
  c6 : W.cell? ⟨a.block, a.off + 6, none⟩ = some (.int .i64 o.f6)
theorem HwC.below {w W : World} {a : Addr} {o : S40} (h : HwC w a o) (hb : Below w.heap.size w W) : HwC W a o :=
  ⟨pw_cell_below hb h.c0, pw_cell_below hb h.c1, pw_cell_below hb h.c2, pw_cell_below hb h.c3, pw_cell_below hb h.c4, pw_cell_below hb h.c5, pw_cell_below hb h.c6⟩
theorem hw_made {W : World} {base b n : Nat} {v : Value} {s : List Int} (h : (Kd.int .i64).R 3 W base (fun _ => True) v s) (hb : v.ownBlock = some b) (hn : s.length = n) : ∃ cap, v = .slice (some ⟨b, 0, none⟩) n cap := by
  subst hn
  obtain ⟨_, inner, ho, hr⟩ := h
  rcases ho.2 with ⟨rfl, h0⟩ | ⟨g, cap, cur, rfl, hb2, hw, hn, hm, hs, ht⟩
  · cases hb
  · cases hb; exact ⟨cap, rfl⟩
theorem hw_info3 : (Try.prog.info? 3).map (fun i => (i.zero, i.size, i.bytes)) = some (some (.int .i64 0), 1, 8) := by kernel_rfl
theorem hw_make (W : World) (base n : Nat) (hb : base ≤ W.heap.size) (hn : n ≤ 1000) : ∃ cs, (Instr.makeSlice 42 (.int .i64 (n : Int)) (.int .i64 (n : Int))).run Try.prog W = .ok (.slice (some ⟨W.heap.size, 0, none⟩) n n) (W.alloc (.cells cs 3)) ∧
    (Kd.int .i64).R 3 (W.alloc (.cells cs 3)) base (fun _ => True) (.slice (some ⟨W.heap.size, 0, none⟩) n n) (List.replicate n 0) := by
  have hi := hw_info3
  obtain ⟨i0, hi, hzz⟩ := Option.map_eq_some_iff.1 hi
  simp only [Prod.mk.injEq] at hzz
  obtain ⟨hz0, hz1, hz2⟩ := hzz
  have hr := run_make (P := Try.prog) W 42 3 i0 (.int .i64 0) (by kernel_rfl) hi hz0 .i64 .i64 (n : Int) (n : Int) (by omega) (by omega) (by rw [hz2]; omega) (by omega)
  simp only [Int.toNat_natCast] at hr
  rw [hz1] at hr
  refine ⟨_, hr, fun _ _ => trivial, _, ?_, Kd.reps_made (R := (Kd.int .i64).M (W.alloc (.cells (madeCells (Value.cells (.int .i64 0)) (n * 1)) 3)) base (fun _ => True)) (z := .int .i64 0) (size := 1) (z0 := (0 : Int)) rfl (by decide) rfl n⟩
  rw [List.length_replicate]
  have h2 := World.ownsRow_lit (base := base) (e := 3) (size := 1) W (madeCells (Value.cells (.int .i64 0)) (n * 1)) n hb (by unfold maxLen; omega) (by simp [madeCells])
  exact h2
open Classical in
noncomputable def inquestlaw14_HistWhole.f (l0 : List S44) : Option Bool :=
  (inquestref14_Few.f l0 128).bind fun L => (hist_Ops.f L).bind fun p => if 1000 < L.length then none else
    if p.2 = 0 then (if HwAll L p.1 then some true else none) else (if p.1.length = 0 then some true else none)
set_option maxHeartbeats 8000000 in
set_option maxRecDepth 100000 in
theorem inquestlaw14_HistWhole.calls (A0 : Option Addr) (c0 : Nat) (l0 : List S44) (r : Bool) (w : World) (hr0 : Kd.C k44 w A0 l0.length l0) (hc0 : l0.length ≤ c0) (h : inquestlaw14_HistWhole.f l0 = some r) :
    Calls Try.prog 6 #[.slice A0 l0.length c0] w fun e w' => e = .returned (.bool r) ∧ Below w.heap.size w w' := by
  unfold inquestlaw14_HistWhole.f at h
  replace h := Option.bind_eq_some_iff.1 h
  obtain ⟨L, hL, h⟩ := h
  replace h := Option.bind_eq_some_iff.1 h
  obtain ⟨⟨p1, p2⟩, hp, h⟩ := h
  dsimp only at h
  have hL' := Aside0.mk hL
  have hp' := Aside0.mk hp
  have hr' := Aside0.mk hr0
  by_cases hbig : 1000 < L.length
  · rw [if_pos hbig] at h; cases h
  rw [if_neg hbig] at h
  have hu40 := Try.underlying40
  have hu44 := Try.underlying44
  clear hL hp hr0
  by_cases hp0 : p2 = 0
  rotate_left
  · rw [if_neg hp0] at h
    have hpb : (p2 != 0) = true := bne_iff_ne.mpr hp0
    by_cases hl : p1.length = 0
    · rw [if_pos hl] at h
      obtain rfl : true = r := Option.some.inj h
      have hlb : ((p1.length : Int) == 0) = true := by simp [hl]
      clear h hl hp0
      go_enter Try.func6, Try.ntmps6
      go_wp2_with (first | (go_at_call 10; (with_reducible refine (inquestref14_Few.calls A0 c0 l0 128 L _ hr'.out hc0 hL'.out).mono ?_); rintro e w1 ⟨vL, rfl, hRL, hB1⟩; obtain ⟨AL, cL, rfl⟩ := Kd.R_slice hRL; obtain ⟨_, hcL, hCL⟩ := Kd.R_reads' hRL; have hmL := Kd.C_max hCL; replace hCL := Aside0.mk hCL; replace hB1 := Aside0.mk hB1; clear hRL) | (go_at_call 15; (with_reducible refine (hist_Ops.calls AL cL L p1 p2 _ hCL.out hcL hp'.out).mono ?_); rintro e w3 ⟨vP, rfl, hRP, hB3⟩; replace hB3 := Aside0.mk hB3; obtain ⟨AP, cP, rfl⟩ := Kd.R_slice hRP; replace hRP := Aside0.mk hRP) | (go_at_call 14; (with_reducible refine (inquestlaw14_lives.calls true _ (by decide +kernel)).mono ?_); rintro e w9 ⟨rfl, hb9⟩))
      go_ret
      exact ⟨rfl, below_step (below_step hB1.out hB3.out) hb9⟩
    · rw [if_neg hl] at h; cases h
  rw [if_pos hp0] at h
  by_cases hall : HwAll L p1
  rotate_left
  · rw [if_neg hall] at h; cases h
  rw [if_pos hall] at h
  obtain rfl : true = r := Option.some.inj h
  have hpb : (p2 != 0) = false := bne_eq_false_iff_eq.mpr hp0
  replace hall := Aside0.mk hall
  clear h hp0
  go_enter Try.func6, Try.ntmps6
  go_wp2_with (first | (go_at_call 10; (with_reducible refine (inquestref14_Few.calls A0 c0 l0 128 L _ hr'.out hc0 hL'.out).mono ?_); rintro e w1 ⟨vL, rfl, hRL, hB1⟩; obtain ⟨AL, cL, rfl⟩ := Kd.R_slice hRL; obtain ⟨_, hcL, hCL⟩ := Kd.R_reads' hRL; have hmL := Kd.C_max hCL; replace hCL := Aside0.mk hCL; replace hB1 := Aside0.mk hB1; clear hRL) | (go_at_call 15; (with_reducible refine (hist_Ops.calls AL cL L p1 p2 _ hCL.out hcL hp'.out).mono ?_); rintro e w3 ⟨vP, rfl, hRP, hB3⟩; replace hB3 := Aside0.mk hB3; obtain ⟨AP, cP, rfl⟩ := Kd.R_slice hRP; replace hRP := Aside0.mk hRP))
  obtain ⟨cs, hmk, hRs⟩ := hw_make w3 w3.heap.size L.length (Nat.le_refl _) (by omega)
  have hS : HwS w3 (w3.alloc (.cells cs 3)) w3.heap.size L.length L.length (List.replicate L.length 0) := ⟨below_alloc (Below.refl _ _) _, Nat.le_refl _, blk_lt (blk_new w3 _), hRs⟩
  rw [hmk]
  replace hRP := Aside0.mk (Kd.R_reads' hRP.out)
  have hCP := Aside0.mk hRP.out.2.2
  have hcP := hRP.out.2.1
  have hmP := Kd.C_max hCP.out
  have hCL3 := Aside0.mk (Kd.C_below hCL.out hB3.out)
  have hlL : L.length ≤ 1000 := by omega
  refine hw_gen _ (fun W => HwS w3 W w3.heap.size L.length L.length (List.replicate L.length 0)) hS ?_
  clear hRs hmk hS hbig hCL hRP
  generalize hg3 : w3.heap.size = g
  rintro w5 hS
  go_wp2
  go_loopg [6] p1.length (fun kk v6 W => ∃ (i : Nat) (s : List Int), v6 = .int .i64 i ∧ Aside0 (kk + i = p1.length) ∧ Aside0 (hw_sn (p1.drop i) s = hw_sn p1 (List.replicate L.length 0)) ∧ s.length = L.length ∧ HwS w3 W g L.length L.length s)
  case atStart => exact ⟨0, _, rfl, ⟨rfl⟩, ⟨rfl⟩, by simp, hS⟩
  case round =>
    obtain ⟨i, s, rfl, hk, hsn, hsl, hI⟩ := hrel
    by_cases hil : i < p1.length
    · obtain ⟨j, rfl⟩ : ∃ j, gk = j + 1 := ⟨gk - 1, by have := hk.out; omega⟩
      have p0 : (0 : Int) ≤ (i : Int) := Int.natCast_nonneg i
      have p1' : (i : Int) < (p1.length : Int) := by omega
      obtain ⟨aP, eP, x0, x1, x2, x3, x4, x5, x6⟩ := at_T40 (Kd.C_below hCP.out hI.hB) (i : Int) p0 p1'
      cases eP
      simp only [Int.toNat_natCast] at x0 x1 x2 x3 x4 x5 x6
      have hop := hall.out.ops i hil
      have hsn2 := (hw_sn_drop p1 i hil s).symm.trans hsn.out
      generalize hpi : rd_T40 p1 (i : Int) = o at *
      obtain ⟨o0, o1, o2, o3, o4, o5, o6⟩ := o
      obtain ⟨q0, q1, q2, q3, qb, qc⟩ := hop
      dsimp only at x0 x1 x2 x3 x4 x5 x6 q0 q1 q2 q3 qb qc
      have hbx := blk_new wr (.cells #[.int .i64 o0, .int .i64 o1, .int .i64 o2, .bool o3, .int .i64 o4, .int .i64 o5, .int .i64 o6] 40)
      have hJ := hI.came (below_alloc (Below.refl wr.heap.size wr) (.cells #[.int .i64 o0, .int .i64 o1, .int .i64 o2, .bool o3, .int .i64 o4, .int .i64 o5, .int .i64 o6] 40))
      have n1 : g ≠ wr.heap.size := Nat.ne_of_lt hI.lg
      clear hpi
      go_wp2
      refine hw_gen _ (fun W => W.heap[wr.heap.size]? = some (.cells #[.int .i64 o0, .int .i64 o1, .int .i64 o2, .bool o3, .int .i64 o4, .int .i64 o5, .int .i64 o6] 40 (0, 0)) ∧ HwS w3 W g L.length L.length s) ⟨hbx, hJ⟩ ?_
      clear hbx hJ hI x0 x1 x2 x3 x4 x5 x6
      generalize wr.heap.size = b at n1
      rintro W2 ⟨hk2, hI2⟩
      have k0 := blk_cell hk2 0
      have k1 := blk_cell hk2 1
      have k2 := blk_cell hk2 2
      have k3 := blk_cell hk2 3
      have k4 := blk_cell hk2 4
      have k5 := blk_cell hk2 5
      have k6 := blk_cell hk2 6
      simp only [List.getElem?_toArray, List.getElem?_cons_zero, List.getElem?_cons_succ] at k0 k1 k2 k3 k4 k5 k6
      have hxB : Below w3.heap.size w3 W2 := by rw [hg3]; exact hg3 ▸ hI2.hB
      obtain ⟨aL, eL, y0, y1, y2, y3⟩ := at_T44 (Kd.C_below hCL3.out hxB) o5 q0 q1
      cases eL
      rw [q2] at y0 y1 y2 y3
      dsimp only at y0 y1 y2 y3
      obtain ⟨z1, z2⟩ := hI2.at o5 q0 q1
      have hnq := hw_neq44
      have t0 : decide (o5 < 0) = false := decide_eq_false (by omega)
      have t1 : decide ((L.length : Int) ≤ o5) = false := decide_eq_false (by omega)
      have hzz : i = 0 ∨ (0 < i ∧ (rd_T40 p1 ((i : Int) - 1)).f5 < o5) := by
        rcases Nat.eq_zero_or_pos i with h | h
        · exact .inl h
        · exact .inr ⟨h, q3 h⟩
      clear q2 q3
      have n2 : b ≠ g := fun e => n1 e.symm
      have hwi := Aside0.mk (hw_w p1.length i hmP hil)
      cases o3 with
      | false =>
        obtain ⟨rfl, rfl⟩ := qb rfl
        rcases hzz with hz0 | ⟨hz0, hz1⟩
        · have t2 : decide ((0 : Int) < (i : Int)) = false := decide_eq_false (by omega)
          have t2b : decide (0 < i) = false := decide_eq_false (by omega)
          have t2c : (0 < i) = False := eq_false (by omega)
          clear hz0
          go_quiet (fail)
          refine hw_gen _ (fun W => W.heap[b]? = some (.cells #[.int .i64 o0, .int .i64 o1, .int .i64 o2, .bool false, .int .i64 0, .int .i64 o5, .int .i64 (-1)] 40 (0, 0)) ∧ HwS w3 W g L.length L.length (s)) ⟨blk_below hk2 (pw_below_drewN (Below.refl _ _) _), hI2.came (pw_below_drewN (Below.refl _ _) _)⟩ ?_
          clear k0 k1 k2 k3 k4 k5 k6 y0 y1 y2 y3 z1 z2 t0 t1 t2 t2b t2c hk2 hI2 hxB hnq qc
          rintro W3 ⟨hk2, hI2⟩
          have k3 := blk_cell hk2 3
          have k4 := blk_cell hk2 4
          have k5 := blk_cell hk2 5
          have k6 := blk_cell hk2 6
          have k0 := blk_cell hk2 0
          simp only [List.getElem?_toArray, List.getElem?_cons_zero, List.getElem?_cons_succ] at k0 k3 k4 k5 k6
          obtain ⟨z1, z2⟩ := hI2.at o5 q0 q1
          have v3 := hI2.put o5 (wrap64 (rdOf 0 s o5 + 1))
          replace v3 := Aside0.mk v3
          replace hI2 := Aside0.mk hI2
          replace hsn2 := Aside0.mk hsn2
          clear hk2
          go_wp2
          go_roundg j
          case measure => omega
          case rel => exact ⟨i + 1, _, by go_num, ⟨by have := hk.out; omega⟩, hsn2, by simp [hw_bump, hw_b1, hsl], v3.out⟩
        · have t2 : decide ((0 : Int) < (i : Int)) = true := decide_eq_true (by omega)
          have t2b : decide (0 < i) = true := decide_eq_true (by omega)
          have t2c : (0 < i) = True := eq_true (by omega)
          have hwm := (i64_w _).trans (hw_w2 p1.length i hmP hil)
          have m0 : 0 ≤ IntKind.i64.wrap ((i : Int) - 1) := by rw [hwm]; omega
          have m1 : IntKind.i64.wrap ((i : Int) - 1) < (p1.length : Int) := by rw [hwm]; omega
          rw [← hwm] at hz1
          clear hwm
          obtain ⟨aP2, eP2, _, _, _, _, _, u5, _⟩ := at_T40 (Kd.C_below hCP.out hxB) (IntKind.i64.wrap ((i : Int) - 1)) m0 m1
          cases eP2
          have t3 : decide (o5 ≤ (rd_T40 p1 (IntKind.i64.wrap ((i : Int) - 1))).f5) = false := decide_eq_false (by omega)
          go_quiet (fail)
          clear m0 m1 hz1 u5 t3
          refine hw_gen _ (fun W => W.heap[b]? = some (.cells #[.int .i64 o0, .int .i64 o1, .int .i64 o2, .bool false, .int .i64 0, .int .i64 o5, .int .i64 (-1)] 40 (0, 0)) ∧ HwS w3 W g L.length L.length (s)) ⟨blk_below hk2 (pw_below_drewN (Below.refl _ _) _), hI2.came (pw_below_drewN (Below.refl _ _) _)⟩ ?_
          clear k0 k1 k2 k3 k4 k5 k6 y0 y1 y2 y3 z1 z2 t0 t1 t2 t2b t2c hk2 hI2 hxB hnq qc
          rintro W3 ⟨hk2, hI2⟩
          have k3 := blk_cell hk2 3
          have k4 := blk_cell hk2 4
          have k5 := blk_cell hk2 5
          have k6 := blk_cell hk2 6
          have k0 := blk_cell hk2 0
          simp only [List.getElem?_toArray, List.getElem?_cons_zero, List.getElem?_cons_succ] at k0 k3 k4 k5 k6
          obtain ⟨z1, z2⟩ := hI2.at o5 q0 q1
          have v3 := hI2.put o5 (wrap64 (rdOf 0 s o5 + 1))
          replace v3 := Aside0.mk v3
          replace hI2 := Aside0.mk hI2
          replace hsn2 := Aside0.mk hsn2
          clear hk2
          go_wp2
          go_roundg j
          case measure => omega
          case rel => exact ⟨i + 1, _, by go_num, ⟨by have := hk.out; omega⟩, hsn2, by simp [hw_bump, hw_b1, hsl], v3.out⟩
      | true =>
        obtain ⟨r0, r1, r2⟩ := qc rfl
        rcases hzz with hz0 | ⟨hz0, hz1⟩
        · have t2 : decide ((0 : Int) < (i : Int)) = false := decide_eq_false (by omega)
          have t2b : decide (0 < i) = false := decide_eq_false (by omega)
          have t2c : (0 < i) = False := eq_false (by omega)
          clear hz0
          go_quiet (fail)
          refine hw_gen _ (fun W => W.heap[b]? = some (.cells #[.int .i64 o0, .int .i64 o1, .int .i64 o2, .bool true, .int .i64 o4, .int .i64 o5, .int .i64 o6] 40 (0, 0)) ∧ HwS w3 W g L.length L.length (s)) ⟨blk_below hk2 (pw_below_drewN (Below.refl _ _) _), hI2.came (pw_below_drewN (Below.refl _ _) _)⟩ ?_
          clear k0 k1 k2 k3 k4 k5 k6 y0 y1 y2 y3 z1 z2 t0 t1 t2 t2b t2c hk2 hI2 hxB hnq qb
          rintro W3 ⟨hk2, hI2⟩
          have k3 := blk_cell hk2 3
          have k4 := blk_cell hk2 4
          have k5 := blk_cell hk2 5
          have k6 := blk_cell hk2 6
          have k0 := blk_cell hk2 0
          simp only [List.getElem?_toArray, List.getElem?_cons_zero, List.getElem?_cons_succ] at k0 k3 k4 k5 k6
          obtain ⟨z1, z2⟩ := hI2.at o5 q0 q1
          have v3 := hI2.put o5 (wrap64 (rdOf 0 s o5 + 1))
          replace v3 := Aside0.mk v3
          have hk3 := Aside0.mk (hw_far (W := W3) (k := o5.toNat) (v := .int .i64 (wrap64 (rdOf 0 s o5 + 1))) n2 hk2)
          clear hk2
          replace hI2 := Aside0.mk hI2
          replace hsn2 := Aside0.mk hsn2
          go_wp2
          refine hw_gen _ (fun W => W.heap[b]? = some (.cells #[.int .i64 o0, .int .i64 o1, .int .i64 o2, .bool true, .int .i64 o4, .int .i64 o5, .int .i64 o6] 40 (0, 0)) ∧ HwS w3 W g L.length L.length (hw_b1 o5 s)) ⟨hk3.out, v3.out⟩ ?_
          clear k0 k3 k4 k5 k6 z1 z2 hI2 hk3 v3
          rintro W4 ⟨hk2, hI2⟩
          have k3 := blk_cell hk2 3
          have k4 := blk_cell hk2 4
          have k5 := blk_cell hk2 5
          have k6 := blk_cell hk2 6
          have k0 := blk_cell hk2 0
          simp only [List.getElem?_toArray, List.getElem?_cons_zero, List.getElem?_cons_succ] at k0 k3 k4 k5 k6
          obtain ⟨z1, z2⟩ := hI2.at o6 (by omega) r1
          have hxB : Below w3.heap.size w3 W4 := by rw [hg3]; exact hg3 ▸ hI2.hB
          obtain ⟨aL2, eL2, y0, y1, y2, y3⟩ := at_T44 (Kd.C_below hCL3.out hxB) o6 (by omega) r1
          cases eL2
          rw [r2] at y0 y1 y2 y3
          dsimp only at y0 y1 y2 y3
          have hnq := hw_neq44
          have t0 : decide (o6 ≤ o5) = false := decide_eq_false (by omega)
          have t1 : decide ((L.length : Int) ≤ o6) = false := decide_eq_false (by omega)
          have r3 : (0 : Int) ≤ o6 := by omega
          go_quiet (fail)
          refine hw_gen _ (fun W => W.heap[b]? = some (.cells #[.int .i64 o0, .int .i64 o1, .int .i64 o2, .bool true, .int .i64 o4, .int .i64 o5, .int .i64 o6] 40 (0, 0)) ∧ HwS w3 W g L.length L.length (hw_b1 o5 s)) ⟨blk_below hk2 (pw_below_drewN (Below.refl _ _) _), hI2.came (pw_below_drewN (Below.refl _ _) _)⟩ ?_
          clear k0 k3 k4 k5 k6 y0 y1 y2 y3 z1 z2 t0 t1 hxB hnq hI2 hk2
          rintro W5 ⟨hk2, hI2⟩
          have k3 := blk_cell hk2 3
          have k4 := blk_cell hk2 4
          have k5 := blk_cell hk2 5
          have k6 := blk_cell hk2 6
          have k0 := blk_cell hk2 0
          simp only [List.getElem?_toArray, List.getElem?_cons_zero, List.getElem?_cons_succ] at k0 k3 k4 k5 k6
          obtain ⟨z1, z2⟩ := hI2.at o6 r3 r1
          have v3 := hI2.put o6 (wrap64 (rdOf 0 (hw_b1 o5 s) o6 + 1))
          replace v3 := Aside0.mk v3
          replace hI2 := Aside0.mk hI2
          clear hk2
          go_wp2
          go_roundg j
          case measure => omega
          case rel => exact ⟨i + 1, _, by go_num, ⟨by have := hk.out; omega⟩, hsn2, by simp [hw_bump, hw_b1, hsl], v3.out⟩
        · have t2 : decide ((0 : Int) < (i : Int)) = true := decide_eq_true (by omega)
          have t2b : decide (0 < i) = true := decide_eq_true (by omega)
          have t2c : (0 < i) = True := eq_true (by omega)
          have hwm := (i64_w _).trans (hw_w2 p1.length i hmP hil)
          have m0 : 0 ≤ IntKind.i64.wrap ((i : Int) - 1) := by rw [hwm]; omega
          have m1 : IntKind.i64.wrap ((i : Int) - 1) < (p1.length : Int) := by rw [hwm]; omega
          rw [← hwm] at hz1
          clear hwm
          obtain ⟨aP2, eP2, _, _, _, _, _, u5, _⟩ := at_T40 (Kd.C_below hCP.out hxB) (IntKind.i64.wrap ((i : Int) - 1)) m0 m1
          cases eP2
          have t3 : decide (o5 ≤ (rd_T40 p1 (IntKind.i64.wrap ((i : Int) - 1))).f5) = false := decide_eq_false (by omega)
          go_quiet (fail)
          clear m0 m1 hz1 u5 t3
          refine hw_gen _ (fun W => W.heap[b]? = some (.cells #[.int .i64 o0, .int .i64 o1, .int .i64 o2, .bool true, .int .i64 o4, .int .i64 o5, .int .i64 o6] 40 (0, 0)) ∧ HwS w3 W g L.length L.length (s)) ⟨blk_below hk2 (pw_below_drewN (Below.refl _ _) _), hI2.came (pw_below_drewN (Below.refl _ _) _)⟩ ?_
          clear k0 k1 k2 k3 k4 k5 k6 y0 y1 y2 y3 z1 z2 t0 t1 t2 t2b t2c hk2 hI2 hxB hnq qb
          rintro W3 ⟨hk2, hI2⟩
          have k3 := blk_cell hk2 3
          have k4 := blk_cell hk2 4
          have k5 := blk_cell hk2 5
          have k6 := blk_cell hk2 6
          have k0 := blk_cell hk2 0
          simp only [List.getElem?_toArray, List.getElem?_cons_zero, List.getElem?_cons_succ] at k0 k3 k4 k5 k6
          obtain ⟨z1, z2⟩ := hI2.at o5 q0 q1
          have v3 := hI2.put o5 (wrap64 (rdOf 0 s o5 + 1))
          replace v3 := Aside0.mk v3
          have hk3 := Aside0.mk (hw_far (W := W3) (k := o5.toNat) (v := .int .i64 (wrap64 (rdOf 0 s o5 + 1))) n2 hk2)
          clear hk2
          replace hI2 := Aside0.mk hI2
          replace hsn2 := Aside0.mk hsn2
          go_wp2
          refine hw_gen _ (fun W => W.heap[b]? = some (.cells #[.int .i64 o0, .int .i64 o1, .int .i64 o2, .bool true, .int .i64 o4, .int .i64 o5, .int .i64 o6] 40 (0, 0)) ∧ HwS w3 W g L.length L.length (hw_b1 o5 s)) ⟨hk3.out, v3.out⟩ ?_
          clear k0 k3 k4 k5 k6 z1 z2 hI2 hk3 v3
          rintro W4 ⟨hk2, hI2⟩
          have k3 := blk_cell hk2 3
          have k4 := blk_cell hk2 4
          have k5 := blk_cell hk2 5
          have k6 := blk_cell hk2 6
          have k0 := blk_cell hk2 0
          simp only [List.getElem?_toArray, List.getElem?_cons_zero, List.getElem?_cons_succ] at k0 k3 k4 k5 k6
          obtain ⟨z1, z2⟩ := hI2.at o6 (by omega) r1
          have hxB : Below w3.heap.size w3 W4 := by rw [hg3]; exact hg3 ▸ hI2.hB
          obtain ⟨aL2, eL2, y0, y1, y2, y3⟩ := at_T44 (Kd.C_below hCL3.out hxB) o6 (by omega) r1
          cases eL2
          rw [r2] at y0 y1 y2 y3
          dsimp only at y0 y1 y2 y3
          have hnq := hw_neq44
          have t0 : decide (o6 ≤ o5) = false := decide_eq_false (by omega)
          have t1 : decide ((L.length : Int) ≤ o6) = false := decide_eq_false (by omega)
          have r3 : (0 : Int) ≤ o6 := by omega
          go_quiet (fail)
          refine hw_gen _ (fun W => W.heap[b]? = some (.cells #[.int .i64 o0, .int .i64 o1, .int .i64 o2, .bool true, .int .i64 o4, .int .i64 o5, .int .i64 o6] 40 (0, 0)) ∧ HwS w3 W g L.length L.length (hw_b1 o5 s)) ⟨blk_below hk2 (pw_below_drewN (Below.refl _ _) _), hI2.came (pw_below_drewN (Below.refl _ _) _)⟩ ?_
          clear k0 k3 k4 k5 k6 y0 y1 y2 y3 z1 z2 t0 t1 hxB hnq hI2 hk2
          rintro W5 ⟨hk2, hI2⟩
          have k3 := blk_cell hk2 3
          have k4 := blk_cell hk2 4
          have k5 := blk_cell hk2 5
          have k6 := blk_cell hk2 6
          have k0 := blk_cell hk2 0
          simp only [List.getElem?_toArray, List.getElem?_cons_zero, List.getElem?_cons_succ] at k0 k3 k4 k5 k6
          obtain ⟨z1, z2⟩ := hI2.at o6 r3 r1
          have v3 := hI2.put o6 (wrap64 (rdOf 0 (hw_b1 o5 s) o6 + 1))
          replace v3 := Aside0.mk v3
          replace hI2 := Aside0.mk hI2
          clear hk2
          go_wp2
          go_roundg j
          case measure => omega
          case rel => exact ⟨i + 1, _, by go_num, ⟨by have := hk.out; omega⟩, hsn2, by simp [hw_bump, hw_b1, hsl], v3.out⟩
    · obtain rfl : i = p1.length := by have := hk.out; omega
      have hs : hw_sn p1 (List.replicate L.length 0) = s := by have := hsn.out; rw [List.drop_of_length_le (Nat.le_refl _)] at this; exact this.symm
      have hone : ∀ k : Nat, k < L.length → rdOf 0 s (k : Int) = 1 := by rw [← hs]; exact hall.out.hits
      have hpair := Aside0.mk hall.out.pairs
      replace hone := Aside0.mk hone
      replace hI := Aside0.mk hI
      clear hs hsn hk hall hil
      go_wp2
      go_loopg [8] L.length (fun kk v8 W => ∃ k : Nat, v8 = .int .i64 k ∧ Aside0 (kk + k = L.length) ∧ Aside0 (HwS w3 W g L.length L.length s))
      case atStart => exact ⟨0, rfl, ⟨rfl⟩, hI⟩
      case round =>
        obtain ⟨k, rfl, hk, hI2⟩ := hrel
        by_cases hkl : k < L.length
        · obtain ⟨j, rfl⟩ : ∃ j, gk = j + 1 := ⟨gk - 1, by have := hk.out; omega⟩
          have p0 : (0 : Int) ≤ (k : Int) := Int.natCast_nonneg k
          have p1' : (k : Int) < (L.length : Int) := by omega
          obtain ⟨z1, z2⟩ := hI2.out.at (k : Int) p0 p1'
          simp only [Int.toNat_natCast] at z1 z2
          rw [hone.out k hkl] at z1
          go_wp2
          go_roundg j
          case measure => omega
          case rel => exact ⟨k + 1, by go_num, ⟨by have := hk.out; omega⟩, hI2⟩
        · obtain rfl : k = L.length := by have := hk.out; omega
          clear hk hkl hone hI
          have hB0 := Aside0.mk hI2.out.hB
          clear hI2
          go_wp2
          go_loopg [9] p1.length (fun kk v9 W => ∃ i : Nat, v9 = .int .i64 i ∧ Aside0 (kk + i = p1.length) ∧ Aside0 (Below w3.heap.size w3 W))
          case atStart => exact ⟨0, rfl, ⟨rfl⟩, ⟨by rw [hg3]; exact hg3 ▸ hB0.out⟩⟩
          case round =>
            obtain ⟨i, rfl, hk, hB5⟩ := hrel
            by_cases hil : i < p1.length
            · obtain ⟨j, rfl⟩ : ∃ j, gk = j + 1 := ⟨gk - 1, by have := hk.out; omega⟩
              have p0 : (0 : Int) ≤ (i : Int) := Int.natCast_nonneg i
              have p1' : (i : Int) < (p1.length : Int) := by omega
              go_wp2
              go_loopg [10] i (fun kk v10 W => ∃ k : Nat, v10 = .int .i64 k ∧ Aside0 (kk + k = i) ∧ Aside0 (Below w3.heap.size w3 W))
              case atStart => exact ⟨0, rfl, ⟨rfl⟩, hB5⟩
              case round =>
                obtain ⟨k, rfl, hkk, hB6⟩ := hrel
                by_cases hki : k < i
                · obtain ⟨j2, rfl⟩ : ∃ j2, gk = j2 + 1 := ⟨gk - 1, by have := hkk.out; omega⟩
                  have q0 : (0 : Int) ≤ (k : Int) := Int.natCast_nonneg k
                  have q1 : (k : Int) < (p1.length : Int) := by omega
                  obtain ⟨aP, eP, x0, x1, x2, x3, x4, x5, x6⟩ := at_T40 (Kd.C_below hCP.out hB6.out) (i : Int) p0 p1'
                  cases eP
                  obtain ⟨aP2, eP2, y0, y1, y2, y3, y4, y5, y6⟩ := at_T40 (Kd.C_below hCP.out hB6.out) (k : Int) q0 q1
                  cases eP2
                  simp only [Int.toNat_natCast] at x0 x1 x2 x3 x4 x5 x6 y0 y1 y2 y3 y4 y5 y6
                  have hpp := hpair.out k i hki hil
                  generalize rd_T40 p1 (i : Int) = o at *
                  generalize rd_T40 p1 (k : Int) = u at *
                  have hbf := hw_bef_is u o
                  go_wp2
                  by_cases hsame : u.f0 = o.f0
                  · have hsb : (u.f0 == o.f0) = true := by simp [hsame]
                    rw [show hw_bef u o = true from hpp hsame] at hbf
                    have hxu : Aside0 (HwC wr (aP.add (k * 7)) u) := ⟨⟨y0, y1, y2, y3, y4, y5, y6⟩⟩
                    have hxo : Aside0 (HwC wr (aP.add (i * 7)) o) := ⟨⟨x0, x1, x2, x3, x4, x5, x6⟩⟩
                    replace hbf := Aside0.mk hbf
                    have hwr : Aside0 (Below wr.heap.size wr wr) := ⟨Below.refl _ _⟩
                    clear x0 x1 x2 x3 x4 x5 x6 y0 y1 y2 y3 y4 y5 y6 hpp hsame
                    refine region_by (fun b us W6 => Below wr.heap.size wr W6) (by kernel_rfl) (by kernel_rfl) ⟨fun _ => undef, below_drew1 (Below.refl _ _)⟩ ?_
                    iterate 4 (refine rb_want (fun us => rfl) ?_; apply Exists.intro; apply And.intro; (focus (apply rb_pure; (focus (intro b us w h; exact h)); intro b us W7_ hC; go_simp; rfl)); apply Exists.intro; apply And.intro; (focus (intro us; simp only [Act.put, List.setIfInBounds_toArray, List.set_cons_zero, List.set_cons_succ]; rfl)))
                    (refine rb_want (fun us => rfl) ?_; apply Exists.intro; apply And.intro; (focus (apply rb_pure; (focus (intro b us w h; exact h)); intro b us W7_ hC; have y := HwC.below hxu.out hC; obtain ⟨y0, y1, y2, y3, y4, y5, y6⟩ := y; go_simp; rfl)); apply Exists.intro; apply And.intro; (focus (intro us; simp only [Act.put, List.setIfInBounds_toArray, List.set_cons_zero, List.set_cons_succ]; rfl)))
                    iterate 4 (refine rb_want (fun us => rfl) ?_; apply Exists.intro; apply And.intro; (focus (apply rb_pure; (focus (intro b us w h; exact h)); intro b us W7_ hC; go_simp; rfl)); apply Exists.intro; apply And.intro; (focus (intro us; simp only [Act.put, List.setIfInBounds_toArray, List.set_cons_zero, List.set_cons_succ]; rfl)))
                    (refine rb_want (fun us => rfl) ?_; apply Exists.intro; apply And.intro; (focus (apply rb_pure; (focus (intro b us w h; exact h)); intro b us W7_ hC; have y := HwC.below hxo.out hC; obtain ⟨y0, y1, y2, y3, y4, y5, y6⟩ := y; go_simp; rfl)); apply Exists.intro; apply And.intro; (focus (intro us; simp only [Act.put, List.setIfInBounds_toArray, List.set_cons_zero, List.set_cons_succ]; rfl)))
                    iterate 2 (refine rb_want (fun us => rfl) ?_; apply Exists.intro; apply And.intro; (focus (apply rb_pure; (focus (intro b us w h; exact h)); intro b us W7_ hC; go_simp; rfl)); apply Exists.intro; apply And.intro; (focus (intro us; simp only [Act.put, List.setIfInBounds_toArray, List.set_cons_zero, List.set_cons_succ]; rfl)))
                    iterate 3 (refine rb_want (fun us => rfl) ?_; apply Exists.intro; apply And.intro; (focus (apply rb_pure; (focus (intro b us w h; exact h)); intro b us W7_ hC; go_simp; rfl)); apply Exists.intro; apply And.intro; (focus (intro us; simp only [Act.put, List.setIfInBounds_toArray, List.set_cons_zero, List.set_cons_succ]; rfl)))
                    (refine rb_want (fun us => rfl) ?_; apply Exists.intro; apply And.intro; (focus (apply rb_pure; (focus (intro b us w h; exact h)); intro b us W7_ hC; have y := HwC.below hxu.out hC; obtain ⟨y0, y1, y2, y3, y4, y5, y6⟩ := y; go_simp; rfl)); apply Exists.intro; apply And.intro; (focus (intro us; simp only [Act.put, List.setIfInBounds_toArray, List.set_cons_zero, List.set_cons_succ]; rfl)))
                    iterate 3 (refine rb_want (fun us => rfl) ?_; apply Exists.intro; apply And.intro; (focus (apply rb_pure; (focus (intro b us w h; exact h)); intro b us W7_ hC; go_simp; rfl)); apply Exists.intro; apply And.intro; (focus (intro us; simp only [Act.put, List.setIfInBounds_toArray, List.set_cons_zero, List.set_cons_succ]; rfl)))
                    (refine rb_want (fun us => rfl) ?_; apply Exists.intro; apply And.intro; (focus (apply rb_pure; (focus (intro b us w h; exact h)); intro b us W7_ hC; have y := HwC.below hxo.out hC; obtain ⟨y0, y1, y2, y3, y4, y5, y6⟩ := y; go_simp; rfl)); apply Exists.intro; apply And.intro; (focus (intro us; simp only [Act.put, List.setIfInBounds_toArray, List.set_cons_zero, List.set_cons_succ]; rfl)))
                    (refine rb_want (fun us => rfl) ⟨.bool true, rb_call (f := 19) (args := fun us => #[.agg (hw_c7 u), .agg (hw_c7 o)]) (fun us W7_ => ?_) (fun b us W7_ hb hon hC => ?_), ?_⟩; (focus (exact rb_enters Try.func19 (by kernel_rfl) rfl (by rfl) W7_)); (focus (refine (hist_Before.calls u.f0 u.f1 u.f2 u.f3 u.f4 u.f5 u.f6 o.f0 o.f1 o.f2 o.f3 o.f4 o.f5 o.f6 _ W7_ hbf.out).mono ?_; rintro e w1 ⟨rfl, hb1⟩; exact ⟨rfl, below_step hC hb1⟩)); apply Exists.intro; apply And.intro; (focus (intro us; simp only [Act.put, List.setIfInBounds_toArray, List.set_cons_zero, List.set_cons_succ]; rfl)))
                    iterate 2 (refine rb_want (fun us => rfl) ?_; apply Exists.intro; apply And.intro; (focus (apply rb_pure; (focus (intro b us w h; exact h)); intro b us W7_ hC; go_simp; rfl)); apply Exists.intro; apply And.intro; (focus (intro us; simp only [Act.put, List.setIfInBounds_toArray, List.set_cons_zero, List.set_cons_succ]; rfl)))
                    refine rb_done (fun b us W6 hall hC => ?_)
                    try dsimp only
                    replace hB6 := Aside0.mk (below_step hB6.out hC)
                    clear hall hC us b
                    go_wp2
                    go_roundg j2
                    case measure => omega
                    case rel => exact ⟨k + 1, by go_num, ⟨by have := hkk.out; omega⟩, hB6⟩
                  · have hsb : (u.f0 == o.f0) = false := by simp [hsame]
                    go_quiet (fail)
                    go_wp2
                    go_roundg j2
                    case measure => omega
                    case rel => exact ⟨k + 1, by go_num, ⟨by have := hkk.out; omega⟩, ⟨pw_below_drewN hB6.out _⟩⟩
                · obtain rfl : k = i := by have := hkk.out; omega
                  go_wp2
                  go_roundg j
                  case measure => omega
                  case rel => exact ⟨k + 1, by go_num, ⟨by have := hk.out; omega⟩, hB6⟩
            · obtain rfl : i = p1.length := by have := hk.out; omega
              go_wp2_with (first | (go_at_call 14; (with_reducible refine (inquestlaw14_lives.calls true _ (by decide +kernel)).mono ?_); rintro e w9 ⟨rfl, hb9⟩))
              go_ret
              exact ⟨rfl, below_step (below_step (below_step hB1.out hB3.out) hB5.out) hb9⟩

/-- THE ONE PURE STATEMENT of inquestlaw14_HistWhole: yours. -/
def inquestlaw14_HistWhole.Pure : Prop := ∀ (l0 : List (S44)), l0.length ≤ maxLen → (∀ x ∈ l0, (Lit.int .i64 x.f0).wf = true ∧ (Lit.int .i64 x.f2).wf = true ∧ (Lit.int .i64 x.f3).wf = true) → inquestlaw14_HistWhole.f l0 = some true
theorem inquestlaw14_HistWhole.walk (P : inquestlaw14_HistWhole.Pure) (a0 : Option Addr) (cap0 : Nat) (l0 : List (S44)) (w : World) (hr0 : Kd.C k44 w a0 l0.length l0) (hc0 : l0.length ≤ cap0) (hm0 : l0.length ≤ maxLen) (hw0 : (∀ x ∈ l0, (Lit.int .i64 x.f0).wf = true ∧ (Lit.int .i64 x.f2).wf = true ∧ (Lit.int .i64 x.f3).wf = true)) :
    Calls Try.prog 6 #[.slice a0 l0.length cap0] w fun e w' => e = .returned (.bool true) ∧ Below w.heap.size w w' := by
  have h := P l0 hm0 hw0
  refine (inquestlaw14_HistWhole.calls _ _ l0 true w hr0 hc0 h).mono ?_
  rintro e w' ⟨rfl, hd⟩
  exact ⟨rfl, hd⟩

end Go.Proofs.Ytofhghpahmeolaa.PHistWhole
