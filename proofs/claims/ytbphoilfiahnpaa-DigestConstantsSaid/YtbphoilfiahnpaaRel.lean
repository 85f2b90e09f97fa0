/-
  A region that draws its order, walked once: each operation by itself, from what is known of the operations that come before it in every order.
-/
import Derived.Test.YtbphoilfiahnpaaLib
namespace Go.Proofs.Ytbphoilfiahnpaa
open Go.RowKit
set_option linter.unusedVariables false

/-- What is known of the operations' values: number k's is the list's k-th. -/
def phi (Fs : List (Value → World → Prop)) (k : Nat) : Value → World → Prop := (Fs[k]?).getD fun _ _ => True
/-- The frame with some operations' values laid. -/
def puts (u : Nat → Value) : List (Nat × Option Tmp) → Act → Act
  | [], a => a
  | p :: r, a => puts u r (a.put p.2 (u p.1))
def facts (Fs : List (Value → World → Prop)) (u : Nat → Value) (w : World) : List (Nat × Option Tmp) → Prop
  | [] => True
  | p :: r => phi Fs p.1 (u p.1) w ∧ facts Fs u w r
def slotVal (d : Option Tmp) (a : Act) : Value := match d with | some t => a.tmps.getD t undef | none => undef
def dstAt (ops : Array Oper) (k : Nat) : Option Tmp := (ops[k]?).bind (·.dst)

/-- What is left of an operation: the region goes on, nothing is deferred, the world is a later one, the value is as is said. -/
structure RelPost (le : World → World → Prop) (a0 : Act) (d : Option Tmp) (w : World) (F : Value → World → Prop) (x : Exit) (a' : Act) (w' : World) : Prop where
  ends : x = .normal
  defers : a'.defers = a0.defers
  later : le w w'
  says : F (slotVal d a') w'
/-- What is asked of one operation: in every world of the class, the values that it uses being as is known of them, it goes through, and its value is as is said. -/
def Ob (P : Program) (ops : Array Oper) (le : World → World → Prop) (C : World → Prop) (Fs : List (Value → World → Prop)) (a0 : Act) (o : Oper) (m : List (Nat × Option Tmp)) (F : Value → World → Prop) : Prop :=
  ∀ (u : Nat → Value) (w : World), C w → facts Fs u w m → ∀ a, a = puts u m a0 → wpList P ops (RelPost le a0 o.dst w F) [o] a w
inductive AllOb (P : Program) (ops : Array Oper) (le : World → World → Prop) (C : World → Prop) (Fs : List (Value → World → Prop)) (a0 : Act) : List Oper → List (List (Nat × Option Tmp)) → List (Value → World → Prop) → Prop
  | nil : AllOb P ops le C Fs a0 [] [] []
  | cons {o : Oper} {m : List (Nat × Option Tmp)} {F : Value → World → Prop} {os : List Oper} {ms : List (List (Nat × Option Tmp))} {G : List (Value → World → Prop)} (h : Ob P ops le C Fs a0 o m F) (r : AllOb P ops le C Fs a0 os ms G) :
      AllOb P ops le C Fs a0 (o :: os) (m :: ms) (F :: G)
inductive AllMono (le : World → World → Prop) : List (Value → World → Prop) → Prop
  | nil : AllMono le []
  | cons {F : Value → World → Prop} {G : List (Value → World → Prop)} (h : ∀ (v : Value) (w w' : World), le w w' → F v w → F v w') (r : AllMono le G) : AllMono le (F :: G)

/-- The closed facts on a region: its operations wait for elder ones alone; 'cl' says what comes before each one; what an operation looks at is laid, or not written yet. -/
def relB (ops : Array Oper) (us : List (List (Nat × Option Tmp))) (cl : List (List Nat)) (all : List (Nat × Option Tmp)) : Bool :=
  Region.noSelect ops &&
  ((List.range ops.size).map (fun k => (k, dstAt ops k)) == all) &&
  (List.range ops.size).all fun j => match ops[j]? with
    | none => false
    | some o =>
      (o.after.all fun e => !Region.binds .any e || e.on < j) &&
      ((cl.getD j []).all fun k => o.after.any fun e => Region.binds .any e && (e.on == k || (cl.getD e.on []).contains k)) &&
      ((us.getD j []).all fun p => dstAt ops p.1 == p.2 && (cl.getD j []).contains p.1) &&
      ((o.looksAt ops).all fun t => (List.range ops.size).all fun k => dstAt ops k != some t || (us.getD j []).any (fun p => p.1 == k) || (cl.getD k []).contains j || k == j) &&
      ((List.range ops.size).all fun k => k == j || o.dst.isNone || dstAt ops k != o.dst)

structure RelSpec (ops : Array Oper) (us : List (List (Nat × Option Tmp))) (cl : List (List Nat)) (all : List (Nat × Option Tmp)) : Prop where
  sel : Region.noSelect ops = true
  all_ : (List.range ops.size).map (fun k => (k, dstAt ops k)) = all
  elder : ∀ j o, ops[j]? = some o → ∀ e ∈ o.after, Region.binds .any e = true → e.on < j
  clo : ∀ j o, ops[j]? = some o → ∀ k ∈ cl.getD j [], ∃ e ∈ o.after, Region.binds .any e = true ∧ (e.on = k ∨ k ∈ cl.getD e.on [])
  use : ∀ j o, ops[j]? = some o → ∀ p ∈ us.getD j [], dstAt ops p.1 = p.2 ∧ p.1 ∈ cl.getD j []
  look : ∀ j o, ops[j]? = some o → ∀ t ∈ o.looksAt ops, ∀ k, k < ops.size → dstAt ops k = some t → (∃ p ∈ us.getD j [], p.1 = k) ∨ j ∈ cl.getD k [] ∨ k = j
  own : ∀ j o, ops[j]? = some o → ∀ k, k < ops.size → k ≠ j → ∀ t, o.dst = some t → dstAt ops k ≠ some t

theorem relB_spec {ops : Array Oper} {us : List (List (Nat × Option Tmp))} {cl : List (List Nat)} {all : List (Nat × Option Tmp)} (h : relB ops us cl all = true) : RelSpec ops us cl all := by
  simp only [relB, Bool.and_eq_true, List.all_eq_true, List.mem_range, beq_iff_eq] at h
  obtain ⟨⟨h1, h2⟩, h3⟩ := h
  have hj : ∀ j o, ops[j]? = some o → j < ops.size := fun j o h => (Array.getElem?_eq_some_iff.1 h).1
  refine ⟨h1, h2, ?_, ?_, ?_, ?_, ?_⟩
  all_goals
    intro j o ho
    have h4 := h3 j (hj j o ho)
    simp only [ho, Bool.and_eq_true] at h4
    obtain ⟨⟨⟨⟨a1, a2⟩, a3⟩, a4⟩, a5⟩ := h4
  · intro e he hb
    have := Array.all_eq_true_iff_forall_mem.1 a1 e he
    simpa [hb] using this
  · intro k hk
    have := List.all_eq_true.1 a2 k hk
    obtain ⟨e, he, hb⟩ := Array.any_eq_true'.1 this
    simp only [Bool.and_eq_true, Bool.or_eq_true, beq_iff_eq, List.contains_iff_mem] at hb
    exact ⟨e, he, hb.1, hb.2⟩
  · intro p hp
    have := List.all_eq_true.1 a3 p hp
    simpa only [Bool.and_eq_true, beq_iff_eq, List.contains_iff_mem] using this
  · intro t ht k hk hd
    have h5 := List.all_eq_true.1 (List.all_eq_true.1 a4 t ht) k (List.mem_range.2 hk)
    simp only [Bool.or_eq_true, bne_iff_ne, ne_eq, hd, not_true_eq_false, false_or, List.any_eq_true, beq_iff_eq, List.contains_iff_mem] at h5
    rcases h5 with (h5 | h5) | h5
    · exact .inl h5
    · exact .inr (.inl h5)
    · exact .inr (.inr h5)
  · intro k hk hne t ht hd
    have h5 := List.all_eq_true.1 a5 k (List.mem_range.2 hk)
    simp [hne, ht, hd] at h5

section
variable {P : Program} {ops : Array Oper} {le : World → World → Prop} {C : World → Prop} {Fs : List (Value → World → Prop)} {us : List (List (Nat × Option Tmp))} {cl : List (List Nat)} {all : List (Nat × Option Tmp)} {a0 : Act}

theorem AllOb.get : ∀ {l : List Oper} {ms : List (List (Nat × Option Tmp))} {G : List (Value → World → Prop)}, AllOb P ops le C Fs a0 l ms G → ∀ (j : Nat) (o : Oper), l[j]? = some o → Ob P ops le C Fs a0 o (ms.getD j []) ((G[j]?).getD fun _ _ => True)
  | _, _, _, .nil, _, _, h => by simp at h
  | _, _, _, .cons h r, 0, o, e => by
    simp only [List.getElem?_cons_zero, Option.some.injEq] at e
    subst e
    simpa using h
  | _, _, _, .cons h r, j + 1, o, e => by
    have := r.get j o (by simpa using e)
    simpa using this
theorem AllMono.get : ∀ {G : List (Value → World → Prop)}, AllMono le G → ∀ (j : Nat) (v : Value) (w w' : World), le w w' → phi G j v w → phi G j v w'
  | _, .nil, j, _, _, _, _, _ => by simp [phi]
  | _, .cons h r, 0, v, w, w', hl, hp => by
    simp only [phi, List.getElem?_cons_zero, Option.getD_some] at *
    exact h v w w' hl hp
  | _, .cons h r, j + 1, v, w, w', hl, hp => by
    have := r.get j v w w' hl (by simpa [phi] using hp)
    simpa [phi] using this

theorem put_tsize (a : Act) (d : Option Tmp) (v : Value) : (a.put d v).tmps.size = a.tmps.size := by cases d <;> simp [Act.put]
theorem put_defers_eq (a : Act) (d : Option Tmp) (v : Value) : (a.put d v).defers = a.defers := by cases d <;> rfl
theorem put_get_ne {a : Act} {d : Option Tmp} {v : Value} {t : Tmp} (h : d ≠ some t) : (a.put d v).tmps[t]? = a.tmps[t]? := by
  cases d with
  | none => rfl
  | some x => simp only [Act.put]; exact Array.getElem?_setIfInBounds_ne (fun e => h (by rw [e]))
theorem puts_tsize (u : Nat → Value) : ∀ (m : List (Nat × Option Tmp)) (a : Act), (puts u m a).tmps.size = a.tmps.size
  | [], _ => rfl
  | p :: r, a => by rw [puts, puts_tsize u r, put_tsize]
theorem puts_defers (u : Nat → Value) : ∀ (m : List (Nat × Option Tmp)) (a : Act), (puts u m a).defers = a.defers
  | [], _ => rfl
  | p :: r, a => by rw [puts, puts_defers u r, put_defers_eq]
theorem puts_none (u : Nat → Value) {t : Tmp} : ∀ (m : List (Nat × Option Tmp)) (a : Act), (∀ p ∈ m, p.2 ≠ some t) → (puts u m a).tmps[t]? = a.tmps[t]?
  | [], _, _ => rfl
  | p :: r, a, h => by
    rw [puts, puts_none u r _ fun q hq => h q (List.mem_cons_of_mem _ hq)]
    exact put_get_ne (h p (List.mem_cons_self ..))
theorem puts_some (u : Nat → Value) {t : Tmp} {v : Value} : ∀ (m : List (Nat × Option Tmp)) (a : Act), t < a.tmps.size → (∃ p ∈ m, p.2 = some t) → (∀ p ∈ m, p.2 = some t → u p.1 = v) → (puts u m a).tmps[t]? = some v
  | [], _, _, h, _ => by obtain ⟨p, hp, _⟩ := h; cases hp
  | p :: r, a, ht, h, hv => by
    rw [puts]
    by_cases hr : ∃ q ∈ r, q.2 = some t
    · exact puts_some u r _ (by rw [put_tsize]; exact ht) hr fun q hq => hv q (List.mem_cons_of_mem _ hq)
    · have hr' : ∀ q ∈ r, q.2 ≠ some t := fun q hq e => hr ⟨q, hq, e⟩
      rw [puts_none u r _ hr']
      obtain ⟨q, hq, e⟩ := h
      rcases List.mem_cons.1 hq with rfl | hq
      · rw [e, ← hv q (List.mem_cons_self ..) e]
        simp [Act.put, ht]
      · exact absurd e (hr' q hq)

structure RelInv (ops : Array Oper) (C : World → Prop) (Fs : List (Value → World → Prop)) (a0 : Act) (listed : Array Bool) (a : Act) (w : World) : Prop where
  closed : ∀ i o, ops[i]? = some o → listed.getD i false = true → ∀ e ∈ o.after, Region.binds .any e = true → listed.getD e.on false = true
  cls : C w
  defers : a.defers = a0.defers
  tsize : a.tmps.size = a0.tmps.size
  same : ∀ t, (∀ k, k < ops.size → dstAt ops k = some t → listed.getD k false = false) → a.tmps[t]? = a0.tmps[t]?
  fact : ∀ k, k < ops.size → listed.getD k false = true → phi Fs k (slotVal (dstAt ops k) a) w

theorem RelSpec.listed (hs : RelSpec ops us cl all) {listed : Array Bool} (hc : ∀ i o, ops[i]? = some o → listed.getD i false = true → ∀ e ∈ o.after, Region.binds .any e = true → listed.getD e.on false = true) :
    ∀ (n j : Nat) (o : Oper), j ≤ n → ops[j]? = some o → (∀ e ∈ o.after, Region.binds .any e = true → listed.getD e.on false = true) → ∀ k ∈ cl.getD j [], listed.getD k false = true := by
  intro n
  induction n with
  | zero =>
    intro j o hj ho ha k hk
    obtain ⟨e, he, hb, h⟩ := hs.clo j o ho k hk
    have := hs.elder j o ho e he hb
    omega
  | succ n ih =>
    intro j o hj ho ha k hk
    obtain ⟨e, he, hb, h⟩ := hs.clo j o ho k hk
    have hlt := hs.elder j o ho e he hb
    have hl := ha e he hb
    rcases h with rfl | h
    · exact hl
    · have hj' : j < ops.size := (Array.getElem?_eq_some_iff.1 ho).1
      obtain ⟨o', ho'⟩ : ∃ o', ops[e.on]? = some o' := ⟨ops[e.on]'(by omega), Array.getElem?_eq_getElem _⟩
      exact ih e.on o' (by omega) ho' (hc e.on o' ho' hl) k h

theorem getD_false_of_true {listed : Array Bool} {j : Nat} (h : listed.getD j true = false) : listed.getD j false = false := by
  rcases Nat.lt_or_ge j listed.size with h' | h'
  · simp [h'] at h ⊢; exact h
  · simp [Array.getElem?_eq_none h'] at h

theorem relStep1 (hs : RelSpec ops us cl all) (hm : ∀ (j : Nat) (v : Value) (w w' : World), le w w' → phi Fs j v w → phi Fs j v w') (hC : ∀ w w', C w → le w w' → C w')
    {Q : Exit → Act → World → Prop} {listed : Array Bool} {a : Act} {w : World} (hi : RelInv ops C Fs a0 listed a w) {j : Nat} {o : Oper} (ho : ops[j]? = some o) (hob : Ob P ops le C Fs a0 o (us.getD j []) (phi Fs j))
    (hj : j ∈ Region.ready .any ops listed) (hsz : listed.size = ops.size) :
    if Region.wanted o (yielded ops a.tmps) then o.wp P a w (RelInv ops C Fs a0 (listed.setIfInBounds j true)) Q else RelInv ops C Fs a0 (listed.setIfInBounds j true) (a.put o.dst undef) w := by
  obtain ⟨hun, o', ho', hall⟩ := mem_ready.1 hj
  rw [ho] at ho'
  cases ho'
  have hunf := getD_false_of_true hun
  have hjs : j < ops.size := (Array.getElem?_eq_some_iff.1 ho).1
  have hcl := hs.listed hi.closed j j o (Nat.le_refl _) ho hall
  have hfact : facts Fs (fun k => slotVal (dstAt ops k) a) w (us.getD j []) := by
    have H : ∀ (m : List (Nat × Option Tmp)), (∀ p ∈ m, p.1 < ops.size ∧ listed.getD p.1 false = true) → facts Fs (fun k => slotVal (dstAt ops k) a) w m := by
      intro m
      induction m with
      | nil => intro _; trivial
      | cons p r ih => intro h; exact ⟨hi.fact p.1 (h p (List.mem_cons_self ..)).1 (h p (List.mem_cons_self ..)).2, ih fun q hq => h q (List.mem_cons_of_mem _ hq)⟩
    refine H _ fun p hp => ?_
    have h1 := (hs.use j o ho p hp).2
    have hl := hcl p.1 h1
    refine ⟨?_, hl⟩
    rcases Nat.lt_or_ge p.1 ops.size with h | h
    · exact h
    · rw [← hsz] at h
      simp [Array.getElem?_eq_none h] at hl
  have h := hob (fun k => slotVal (dstAt ops k) a) w hi.cls hfact _ rfl
  -- the frames agree on what the operation looks at
  have hlook : ∀ t ∈ o.looksAt ops, a.tmps[t]? = (puts (fun k => slotVal (dstAt ops k) a) (us.getD j []) a0).tmps[t]? := by
    intro t ht
    rcases Nat.lt_or_ge t a0.tmps.size with hlt | hge
    · by_cases hex : ∃ p ∈ us.getD j [], p.2 = some t
      · rw [puts_some _ _ _ hlt hex (v := a.tmps.getD t undef)]
        · have : t < a.tmps.size := by rw [hi.tsize]; exact hlt
          simp [this]
        · intro p hp e
          have := (hs.use j o ho p hp).1
          simp [this, e, slotVal]
      · rw [puts_none _ _ _ fun p hp e => hex ⟨p, hp, e⟩]
        refine hi.same t fun k hk hd => ?_
        rcases hs.look j o ho t ht k hk hd with ⟨p, hp, e⟩ | h1 | rfl
        · exact absurd ⟨p, hp, by rw [← (hs.use j o ho p hp).1, e, hd]⟩ hex
        · cases hk' : listed.getD k false
          · rfl
          · obtain ⟨ok, hok⟩ : ∃ o', ops[k]? = some o' := ⟨ops[k], Array.getElem?_eq_getElem _⟩
            have := hs.listed hi.closed k k ok (Nat.le_refl _) hok (hi.closed k ok hok hk') j h1
            rw [hunf] at this
            cases this
        · exact hunf
    · rw [Array.getElem?_eq_none (by rw [hi.tsize]; exact hge), Array.getElem?_eq_none (by rw [puts_tsize]; exact hge)]
  generalize hb : puts (fun k => slotVal (dstAt ops k) a) (us.getD j []) a0 = b at h hlook
  have hbs : b.tmps.size = a.tmps.size := by rw [← hb, puts_tsize, hi.tsize]
  have hbd : b.defers = a0.defers := by rw [← hb, puts_defers]
  have hexec : execOp b.eval o = execOp a.eval o := execOp_congr o (fun cs c => Region.noSelect_spec hs.sel j o cs c ho) fun x hx => by
    cases x with
    | tmp t =>
      have := hlook t (List.mem_append_left _ (List.mem_filterMap.2 ⟨.tmp t, by simpa using hx, rfl⟩))
      simp [Act.eval, this]
    | _ => rfl
  have hwant : Region.wanted o (yielded ops b.tmps) = Region.wanted o (yielded ops a.tmps) := by
    unfold Region.wanted
    cases hg : o.guard with
    | none => rfl
    | some gw =>
      obtain ⟨g, want⟩ := gw
      have hy : yielded ops b.tmps g = yielded ops a.tmps g := by
        unfold yielded
        cases ht : (ops[g]?).bind (·.dst) with
        | none => rfl
        | some t =>
          have := hlook t (List.mem_append_right _ (by simp [hg, ht]))
          simp [this]
      simp only [hy]
  -- the new state
  have hdst : dstAt ops j = o.dst := by simp [dstAt, ho]
  have next : ∀ (v : Value) (w' : World), le w w' → phi Fs j (slotVal o.dst (b.put o.dst v)) w' → RelInv ops C Fs a0 (listed.setIfInBounds j true) (a.put o.dst v) w' := by
    intro v w' hle hp
    refine ⟨?_, hC _ _ hi.cls hle, by rw [put_defers_eq]; exact hi.defers, by rw [put_tsize]; exact hi.tsize, ?_, ?_⟩
    · intro i oi hoi hl e he hbd
      by_cases hij : j = i
      · subst hij
        rw [ho] at hoi
        cases hoi
        exact getD_set_true (hall e he hbd)
      · rw [getD_set_ne false hij] at hl
        exact getD_set_true (hi.closed i oi hoi hl e he hbd)
    · intro t ht
      have hne : o.dst ≠ some t := fun e => by
        have := ht j hjs (by rw [hdst, e])
        simp [hsz, hjs] at this
      rw [put_get_ne hne]
      refine hi.same t fun k hk hd => ?_
      have := ht k hk hd
      by_cases hjk : j = k
      · subst hjk; exact hunf
      · rwa [getD_set_ne false hjk] at this
    · intro k hk hl
      by_cases hjk : j = k
      · subst hjk
        rw [hdst]
        have e : slotVal o.dst (a.put o.dst v) = slotVal o.dst (b.put o.dst v) := by
          cases hd : o.dst with
          | none => rfl
          | some t =>
            simp only [slotVal, Act.put, Array.getD_eq_getD_getElem?, Array.getElem?_setIfInBounds_self]
            rw [hbs]
        rw [e]
        exact hp
      · rw [getD_set_ne false hjk] at hl
        have h0 := hm k _ w w' hle (hi.fact k hk hl)
        have e : slotVal (dstAt ops k) (a.put o.dst v) = slotVal (dstAt ops k) a := by
          cases hd : dstAt ops k with
          | none => rfl
          | some t =>
            simp only [slotVal, Array.getD_eq_getD_getElem?]
            rw [put_get_ne fun e => hs.own j o ho k hk (Ne.symm hjk) t e hd]
        rw [e]
        exact h0
  -- the operation itself
  simp only [wpList, hwant] at h
  split
  · rename_i hw
    simp only [hw, if_true] at h
    rcases h with h | ⟨_, x, y, h⟩
    · unfold Oper.wp at *
      rw [hexec] at h
      generalize (execOp a.eval o).run P w = r at *
      cases r with
      | ok n w' =>
        cases n <;> simp only [Oper.upon] at h ⊢
        case value v => exact next v w' h.later h.says
        case skip => exact next undef w' h.later h.says
        case defer d =>
          have := h.defers
          rw [put_defers_eq, ← hbd] at this
          exact absurd (congrArg List.length this) (by simp)
        case enter f args =>
          refine Calls.mono h fun e w'' he => ?_
          cases e with
          | returned v => exact next v w'' he.later he.says
          | panicked c => exact absurd he.ends (by simp)
          | outgrown => obtain ⟨x, y, he⟩ := he; exact absurd he.ends (by simp)
        case row row args => exact Rows.mono h fun v w'' he => next v w'' he.later he.says
      | halt x w' =>
        cases x <;> simp only [Oper.upon] at h ⊢
        case panic u => exact absurd h.ends (by simp)
    · exact absurd h.ends (by simp)
  · rename_i hw
    simp only [hw] at h
    exact next undef w h.later h.says

theorem relStep (hs : RelSpec ops us cl all) (hm : ∀ (j : Nat) (v : Value) (w w' : World), le w w' → phi Fs j v w → phi Fs j v w') (hC : ∀ w w', C w → le w w' → C w')
    (hob : ∀ (j : Nat) (o : Oper), ops[j]? = some o → Ob P ops le C Fs a0 o (us.getD j []) (phi Fs j)) {Q : Exit → Act → World → Prop} {listed : Array Bool} {a : Act} {w : World} (hi : RelInv ops C Fs a0 listed a w) {j : Nat}
    (hj : j ∈ Region.ready .any ops listed) (hsz : listed.size = ops.size) : wpOp P ops Q j (RelInv ops C Fs a0 (listed.setIfInBounds j true)) a w := by
  obtain ⟨_, o, ho, _⟩ := mem_ready.1 hj
  have h := relStep1 (Q := Q) hs hm hC hi ho (hob j o ho) hj hsz
  unfold wpOp
  simp only [ho]
  split
  · rename_i hw
    rw [if_pos hw] at h
    exact .inl h
  · rename_i hw
    rw [if_neg hw] at h
    exact h

theorem relAny (hs : RelSpec ops us cl all) (hm : ∀ (j : Nat) (v : Value) (w w' : World), le w w' → phi Fs j v w → phi Fs j v w') (hC : ∀ w w', C w → le w w' → C w')
    (hob : ∀ (j : Nat) (o : Oper), ops[j]? = some o → Ob P ops le C Fs a0 o (us.getD j []) (phi Fs j)) {Q : Exit → Act → World → Prop}
    (hfin : ∀ (u : Nat → Value) (w' : World), C w' → facts Fs u w' all → Q .normal (puts u all a0) w') :
    ∀ (fuel : Nat) (listed : Array Bool) (a : Act) (w : World), listed.size = ops.size → (List.range ops.size).countP (fun k => !listed.getD k true) ≤ fuel → RelInv ops C Fs a0 listed a w → wpAny P .any ops Q fuel listed a w := by
  -- when nothing may come up all have come up
  have done : ∀ (listed : Array Bool) (a : Act) (w : World), listed.size = ops.size → RelInv ops C Fs a0 listed a w → (∀ k, k < ops.size → listed.getD k false = true) → Q .normal a w := by
    intro listed a w hsz hi hl
    have e : a = puts (fun k => slotVal (dstAt ops k) a) all a0 := by
      have ht : a.tmps = (puts (fun k => slotVal (dstAt ops k) a) all a0).tmps := by
        apply Array.ext_getElem?
        intro t
        rcases Nat.lt_or_ge t a0.tmps.size with hlt | hge
        · by_cases hex : ∃ p ∈ all, p.2 = some t
          · rw [puts_some _ _ _ hlt hex (v := a.tmps.getD t undef)]
            · have : t < a.tmps.size := by rw [hi.tsize]; exact hlt
              simp [this]
            · intro p hp e
              rw [← hs.all_] at hp
              obtain ⟨k, _, rfl⟩ := List.mem_map.1 hp
              simp only at e
              simp [e, slotVal]
          · rw [puts_none _ _ _ fun p hp e => hex ⟨p, hp, e⟩]
            refine hi.same t fun k hk hd => absurd ⟨(k, dstAt ops k), ?_, hd⟩ hex
            rw [← hs.all_]
            exact List.mem_map.2 ⟨k, List.mem_range.2 hk, rfl⟩
        · rw [Array.getElem?_eq_none (by rw [hi.tsize]; exact hge), Array.getElem?_eq_none (by rw [puts_tsize]; exact hge)]
      have hd : a.defers = (puts (fun k => slotVal (dstAt ops k) a) all a0).defers := by rw [puts_defers]; exact hi.defers
      cases a
      simp only at ht hd
      rw [show puts (fun k => slotVal (dstAt ops k) _) all a0 = ⟨_, _⟩ from rfl, ← ht, ← hd]
    rw [e]
    refine hfin _ w hi.cls ?_
    have H : ∀ (m : List (Nat × Option Tmp)), (∀ p ∈ m, p.1 < ops.size) → facts Fs (fun k => slotVal (dstAt ops k) a) w m := by
      intro m
      induction m with
      | nil => intro _; trivial
      | cons p r ih => intro h; exact ⟨hi.fact p.1 (h p (List.mem_cons_self ..)) (hl p.1 (h p (List.mem_cons_self ..))), ih fun q hq => h q (List.mem_cons_of_mem _ hq)⟩
    refine H _ fun p hp => ?_
    rw [← hs.all_] at hp
    obtain ⟨k, hk, rfl⟩ := List.mem_map.1 hp
    exact List.mem_range.1 hk
  have stuck : ∀ (listed : Array Bool), listed.size = ops.size → Region.ready .any ops listed = [] → ∀ k, k < ops.size → listed.getD k false = true := by
    intro listed hsz hr k
    induction k using Nat.strongRecOn with
    | ind k ih =>
      intro hk
      cases hl : listed.getD k false
      · have : k ∈ Region.ready .any ops listed := by
          rw [mem_ready]
          refine ⟨?_, ops[k], Array.getElem?_eq_getElem _, fun e he hb => ?_⟩
          · have hk' : k < listed.size := by omega
            simp [hk'] at hl ⊢
            exact hl
          · have := hs.elder k ops[k] (Array.getElem?_eq_getElem _) e he hb
            exact ih e.on this (by omega)
        rw [hr] at this
        cases this
      · rfl
  intro fuel
  induction fuel with
  | zero =>
    intro listed a w hsz hcnt hi
    have hl : ∀ k, k < ops.size → listed.getD k false = true := by
      intro k hk
      have h0 : (List.range ops.size).countP (fun k => !listed.getD k true) = 0 := by omega
      rw [List.countP_eq_zero] at h0
      have h1 := h0 k (List.mem_range.2 hk)
      have hk' : k < listed.size := by omega
      simp [hk'] at h1 ⊢
      exact h1
    refine ⟨?_, done listed a w hsz hi hl⟩
    cases hr : Region.ready .any ops listed with
    | nil => rfl
    | cons k r =>
      have hk : k ∈ Region.ready .any ops listed := by rw [hr]; exact List.mem_cons_self ..
      obtain ⟨h1, o, ho, _⟩ := mem_ready.1 hk
      have := hl k (Array.getElem?_eq_some_iff.1 ho).1
      rw [getD_false_of_true h1] at this
      cases this
  | succ fuel ih =>
    intro listed a w hsz hcnt hi
    refine ⟨fun h0 => done listed a w hsz hi (stuck listed hsz h0), fun j hj => ?_⟩
    refine wpOp_mono (fun a' w' h' => ih _ a' w' (by simpa using hsz) ?_ h') (relStep hs hm hC hob hi hj hsz)
    obtain ⟨h1, o, ho, _⟩ := mem_ready.1 hj
    have hjs : j < ops.size := (Array.getElem?_eq_some_iff.1 ho).1
    have hlt : (List.range ops.size).countP (fun k => !(listed.setIfInBounds j true).getD k true) < (List.range ops.size).countP (fun k => !listed.getD k true) := by
      obtain ⟨n, hn⟩ : ∃ n, ops.size = j + 1 + n := ⟨ops.size - (j + 1), by omega⟩
      have hsplit : List.range ops.size = List.range j ++ j :: (List.range n).map (fun x => j + 1 + x) := by
        rw [hn, List.range_add, List.range_succ]
        simp
      rw [hsplit, List.countP_append, List.countP_append, List.countP_cons, List.countP_cons]
      have hmono : ∀ (l : List Nat), l.countP (fun k => !(listed.setIfInBounds j true).getD k true) ≤ l.countP (fun k => !listed.getD k true) := fun l =>
        List.countP_mono_left fun k _ hk => by
          by_cases hjk : j = k
          · subst hjk
            have : j < listed.size := by omega
            simp [this] at hk
          · rwa [getD_set_ne true hjk] at hk
      have e1 : (!listed.getD j true) = true := by rw [h1]; rfl
      have e2 : (!(listed.setIfInBounds j true).getD j true) = false := by
        have : j < listed.size := by omega
        simp [this]
      have m1 := hmono (List.range j)
      have m2 := hmono ((List.range n).map (fun x => j + 1 + x))
      rw [e1, e2, if_pos rfl, if_neg (by simp)]
      omega
    omega

/-- A drawn region, each operation by itself. -/
theorem wp_region_rel {id : Nat} {Q : Exit → Act → World → Prop} {a0 : Act} {w : World} {l : List Oper} (le : World → World → Prop) (C : World → Prop) (Fs : List (Value → World → Prop)) (us : List (List (Nat × Option Tmp))) (cl : List (List Nat)) (all : List (Nat × Option Tmp))
    (hm : P.follows .mixedOrders = true) (hB : relB l.toArray us cl all = true) (hC : ∀ w w', C w → le w w' → C w') (h0 : C w.drew) (hmono : AllMono le Fs) (hob : AllOb P l.toArray le C Fs a0 l us Fs)
    (hfin : ∀ (u : Nat → Value) (w' : World), C w' → facts Fs u w' all → ∀ a, a = puts u all a0 → Q .normal a w') : (Code.region id l.toArray true).wp P Q a0 w := by
  refine wp_region_any hm ?_
  refine relAny (le := le) (C := C) (Fs := Fs) (relB_spec hB) hmono.get hC (fun j o ho => hob.get j o (by simpa using ho)) (fun u w' h1 h2 => hfin u w' h1 h2 _ rfl) _ _ _ _ (by simp) ?_ ⟨?_, h0, rfl, rfl, fun _ _ => rfl, ?_⟩
  · refine Nat.le_trans (List.countP_le_length) (by simp)
  · intro i o ho hl
    simp only [Array.getD_eq_getD_getElem?, Array.getElem?_replicate] at hl
    split at hl <;> simp at hl
  · intro k hk hl
    simp only [Array.getD_eq_getD_getElem?, Array.getElem?_replicate] at hl
    split at hl <;> simp at hl
end

/-! ### What may be known of a value -/
/-- Just this value. -/
def Det (c : Value) : Value → World → Prop := fun v _ => v = c
theorem Det.later {c : Value} (v : Value) (w w' : World) (hb : Below w.heap.size w w') (h : Det c v w) : Det c v w' := h
def Any : Value → World → Prop := fun _ _ => True
theorem Any.later (v : Value) (w w' : World) (hb : Below w.heap.size w w') (h : Any v w) : Any v w' := h
end Go.Proofs.Ytbphoilfiahnpaa
