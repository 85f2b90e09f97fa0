/-
  A region that draws its order, of which one operation (a call) changes what the others leave: what is known of the world ahead of it, and behind it (lines of Base, turned to this).
-/
import Derived.Test.YtkiiobfomnggcaaBase
namespace Go.Proofs.Ytkiiobfomnggcaa
open Go.RowKit
set_option linter.unusedVariables false

section
variable {F : Fence} {n : Nat} {P : Program} {ops : Array Oper} {le le0 : World → World → Prop} {p : Nat} {C : Bool → World → Prop} {Fs : List (Value → World → Prop)} {us : List (List (Nat × Option Tmp))} {cl : List (List Nat)} {all : List (Nat × Option Tmp)} {a0 : Act}
/-- What is asked of the operations: of the call in the worlds ahead of it, of the others in both. -/
inductive AllObS (P : Program) (ops : Array Oper) (le le0 : World → World → Prop) (p : Nat) (C : Bool → World → Prop) (Fs : List (Value → World → Prop)) (a0 : Act) : Nat → List Oper → List (List (Nat × Option Tmp)) → List (Value → World → Prop) → Prop
  | nil {j : Nat} : AllObS P ops le le0 p C Fs a0 j [] [] []
  | cons {j : Nat} {o : Oper} {m : List (Nat × Option Tmp)} {F : Value → World → Prop} {os : List Oper} {ms : List (List (Nat × Option Tmp))} {G : List (Value → World → Prop)} (hj : j ≠ p) (h : ∀ b, Ob P ops le0 (C b) Fs a0 o m F) (r : AllObS P ops le le0 p C Fs a0 (j + 1) os ms G) :
      AllObS P ops le le0 p C Fs a0 j (o :: os) (m :: ms) (F :: G)
  | call {o : Oper} {m : List (Nat × Option Tmp)} {F : Value → World → Prop} {os : List Oper} {ms : List (List (Nat × Option Tmp))} {G : List (Value → World → Prop)} (h : Ob P ops (fun W W' => le W W' ∧ C true W') (C false) Fs a0 o m F) (r : AllObS P ops le le0 p C Fs a0 (p + 1) os ms G) :
      AllObS P ops le le0 p C Fs a0 p (o :: os) (m :: ms) (F :: G)
theorem AllObS.get : ∀ {j0 : Nat} {l : List Oper} {ms : List (List (Nat × Option Tmp))} {G : List (Value → World → Prop)}, AllObS P ops le le0 p C Fs a0 j0 l ms G → ∀ (i : Nat) (o : Oper), l[i]? = some o →
    (j0 + i = p → Ob P ops (fun W W' => le W W' ∧ C true W') (C false) Fs a0 o (ms.getD i []) ((G[i]?).getD fun _ _ => True)) ∧ (j0 + i ≠ p → ∀ b, Ob P ops le0 (C b) Fs a0 o (ms.getD i []) ((G[i]?).getD fun _ _ => True))
  | _, _, _, _, .nil, _, _, h => by simp at h
  | _, _, _, _, .cons hj h r, 0, o, e => by
    simp only [List.getElem?_cons_zero, Option.some.injEq] at e
    subst e
    exact ⟨fun e => absurd e hj, fun _ b => by simpa using h b⟩
  | _, _, _, _, .call h r, 0, o, e => by
    simp only [List.getElem?_cons_zero, Option.some.injEq] at e
    subst e
    exact ⟨fun _ => by simpa using h, fun e => absurd rfl e⟩
  | j0, _, _, _, .cons hj h r, i + 1, o, e => by
    have := r.get i o (by simpa using e)
    rw [show j0 + 1 + i = j0 + (i + 1) by omega] at this
    simpa using this
  | _, _, _, _, .call h r, i + 1, o, e => by
    have := r.get i o (by simpa using e)
    rw [show p + 1 + i = p + (i + 1) by omega] at this
    simpa using this
structure RelInvS (ops : Array Oper) (p : Nat) (C : Bool → World → Prop) (Fs : List (Value → World → Prop)) (a0 : Act) (listed : Array Bool) (a : Act) (w : World) : Prop where
  closed : ∀ i o, ops[i]? = some o → listed.getD i false = true → ∀ e ∈ o.after, Region.binds .any e = true → listed.getD e.on false = true
  cls : C (listed.getD p false) w
  defers : a.defers = a0.defers
  tsize : a.tmps.size = a0.tmps.size
  same : ∀ t, (∀ k, k < ops.size → dstAt ops k = some t → listed.getD k false = false) → a.tmps[t]? = a0.tmps[t]?
  fact : ∀ k, k < ops.size → listed.getD k false = true → phi Fs k (slotVal (dstAt ops k) a) w
theorem RelPost.le_mono {le le' : World → World → Prop} {a0 : Act} {d : Option Tmp} {w : World} {F : Value → World → Prop} {x : Exit} {a' : Act} {w' : World} (h : RelPost le a0 d w F x a' w') (hl : le w w' → le' w w') : RelPost le' a0 d w F x a' w' := ⟨h.ends, h.defers, hl h.later, h.says⟩

theorem relStepS (hs : RelSpec ops us cl all) (hm : ∀ (j : Nat) (v : Value) (w w' : World), le w w' → phi Fs j v w → phi Fs j v w') (hC : ∀ b w w', C b w → le0 w w' → le w w' ∧ C b w')
    {Q : Exit → Act → World → Prop} {listed : Array Bool} {a : Act} {w : World} (hi : RelInvS ops p C Fs a0 listed a w) {j : Nat} {o : Oper} (ho : ops[j]? = some o) (hob : (j = p → Ob P ops (fun W W' => le W W' ∧ C true W') (C false) Fs a0 o (us.getD j []) (phi Fs j)) ∧ (j ≠ p → ∀ b, Ob P ops le0 (C b) Fs a0 o (us.getD j []) (phi Fs j)))
    (hj : j ∈ Region.ready .any ops listed) (hsz : listed.size = ops.size) :
    if Region.wanted o (yielded ops a.tmps) then o.wp P a w (RelInvS ops p C Fs a0 (listed.setIfInBounds j true)) Q else RelInvS ops p C Fs a0 (listed.setIfInBounds j true) (a.put o.dst undef) w := by
  obtain ⟨hun, o', ho', hall⟩ := mem_ready.1 hj
  rw [ho] at ho'
  cases ho'
  have hunf := getD_false_of_true hun
  have hjs : j < ops.size := (Array.getElem?_eq_some_iff.1 ho).1
  have hcl := hs.listed hi.closed j j o (Nat.le_refl _) ho hall
  have hfact : facts Fs (fun k => slotVal (dstAt ops k) a) w (us.getD j []) := by
    have H : ∀ (m : List (Nat × Option Tmp)), (∀ p ∈ m, p.1 < ops.size ∧ listed.getD p.1 false = true) → facts Fs (fun k => slotVal (dstAt ops k) a) w m := by
      intro m
      induction m with
      | nil => intro _; trivial
      | cons p r ih => intro h; exact ⟨hi.fact p.1 (h p (List.mem_cons_self ..)).1 (h p (List.mem_cons_self ..)).2, ih fun q hq => h q (List.mem_cons_of_mem _ hq)⟩
    refine H _ fun p hp => ?_
    have h1 := (hs.use j o ho p hp).2
    have hl := hcl p.1 h1
    refine ⟨?_, hl⟩
    rcases Nat.lt_or_ge p.1 ops.size with h | h
    · exact h
    · rw [← hsz] at h
      simp [Array.getElem?_eq_none h] at hl
  have h : ∃ le' : World → World → Prop, (∀ w', le' w w' → le w w' ∧ C ((listed.setIfInBounds j true).getD p false) w') ∧ wpList P ops (RelPost le' a0 o.dst w (phi Fs j)) [o] (puts (fun k => slotVal (dstAt ops k) a) (us.getD j []) a0) w := by
    by_cases hjp : j = p
    · subst hjp
      have e1 : (listed.setIfInBounds j true).getD j false = true := by simp [hsz, hjs]
      rw [e1]
      have hc := hi.cls
      rw [hunf] at hc
      exact ⟨_, fun _ h => h, hob.1 rfl _ w hc hfact _ rfl⟩
    · rw [getD_set_ne false hjp]
      exact ⟨_, fun w' hl => hC _ _ _ hi.cls hl, hob.2 hjp _ _ w hi.cls hfact _ rfl⟩
  obtain ⟨le', hcv, h⟩ := h
  -- the frames agree on what the operation looks at
  have hlook : ∀ t ∈ o.looksAt ops, a.tmps[t]? = (puts (fun k => slotVal (dstAt ops k) a) (us.getD j []) a0).tmps[t]? := by
    intro t ht
    rcases Nat.lt_or_ge t a0.tmps.size with hlt | hge
    · by_cases hex : ∃ p ∈ us.getD j [], p.2 = some t
      · rw [puts_some _ _ _ hlt hex (v := a.tmps.getD t undef)]
        · have : t < a.tmps.size := by rw [hi.tsize]; exact hlt
          simp [this]
        · intro p hp e
          have := (hs.use j o ho p hp).1
          simp [this, e, slotVal]
      · rw [puts_none _ _ _ fun p hp e => hex ⟨p, hp, e⟩]
        refine hi.same t fun k hk hd => ?_
        rcases hs.look j o ho t ht k hk hd with ⟨p, hp, e⟩ | h1 | rfl
        · exact absurd ⟨p, hp, by rw [← (hs.use j o ho p hp).1, e, hd]⟩ hex
        · cases hk' : listed.getD k false
          · rfl
          · obtain ⟨ok, hok⟩ : ∃ o', ops[k]? = some o' := ⟨ops[k], Array.getElem?_eq_getElem _⟩
            have := hs.listed hi.closed k k ok (Nat.le_refl _) hok (hi.closed k ok hok hk') j h1
            rw [hunf] at this
            cases this
        · exact hunf
    · rw [Array.getElem?_eq_none (by rw [hi.tsize]; exact hge), Array.getElem?_eq_none (by rw [puts_tsize]; exact hge)]
  generalize hb : puts (fun k => slotVal (dstAt ops k) a) (us.getD j []) a0 = b at h hlook
  have hbs : b.tmps.size = a.tmps.size := by rw [← hb, puts_tsize, hi.tsize]
  have hbd : b.defers = a0.defers := by rw [← hb, puts_defers]
  have hexec : execOp b.eval o = execOp a.eval o := execOp_congr o (fun cs c => Region.noSelect_spec hs.sel j o cs c ho) fun x hx => by
    cases x with
    | tmp t =>
      have := hlook t (List.mem_append_left _ (List.mem_filterMap.2 ⟨.tmp t, by simpa using hx, rfl⟩))
      simp [Act.eval, this]
    | _ => rfl
  have hwant : Region.wanted o (yielded ops b.tmps) = Region.wanted o (yielded ops a.tmps) := by
    unfold Region.wanted
    cases hg : o.guard with
    | none => rfl
    | some gw =>
      obtain ⟨g, want⟩ := gw
      have hy : yielded ops b.tmps g = yielded ops a.tmps g := by
        unfold yielded
        cases ht : (ops[g]?).bind (·.dst) with
        | none => rfl
        | some t =>
          have := hlook t (List.mem_append_right _ (by simp [hg, ht]))
          simp [this]
      simp only [hy]
  -- the new state
  have hdst : dstAt ops j = o.dst := by simp [dstAt, ho]
  have next : ∀ (v : Value) (w' : World), (le w w' ∧ C ((listed.setIfInBounds j true).getD p false) w') → phi Fs j (slotVal o.dst (b.put o.dst v)) w' → RelInvS ops p C Fs a0 (listed.setIfInBounds j true) (a.put o.dst v) w' := by
    intro v w' hle hp
    refine ⟨?_, hle.2, by rw [put_defers_eq]; exact hi.defers, by rw [put_tsize]; exact hi.tsize, ?_, ?_⟩
    · intro i oi hoi hl e he hbd
      by_cases hij : j = i
      · subst hij
        rw [ho] at hoi
        cases hoi
        exact getD_set_true (hall e he hbd)
      · rw [getD_set_ne false hij] at hl
        exact getD_set_true (hi.closed i oi hoi hl e he hbd)
    · intro t ht
      have hne : o.dst ≠ some t := fun e => by
        have := ht j hjs (by rw [hdst, e])
        simp [hsz, hjs] at this
      rw [put_get_ne hne]
      refine hi.same t fun k hk hd => ?_
      have := ht k hk hd
      by_cases hjk : j = k
      · subst hjk; exact hunf
      · rwa [getD_set_ne false hjk] at this
    · intro k hk hl
      by_cases hjk : j = k
      · subst hjk
        rw [hdst]
        have e : slotVal o.dst (a.put o.dst v) = slotVal o.dst (b.put o.dst v) := by
          cases hd : o.dst with
          | none => rfl
          | some t =>
            simp only [slotVal, Act.put, Array.getD_eq_getD_getElem?, Array.getElem?_setIfInBounds_self]
            rw [hbs]
        rw [e]
        exact hp
      · rw [getD_set_ne false hjk] at hl
        have h0 := hm k _ w w' hle.1 (hi.fact k hk hl)
        have e : slotVal (dstAt ops k) (a.put o.dst v) = slotVal (dstAt ops k) a := by
          cases hd : dstAt ops k with
          | none => rfl
          | some t =>
            simp only [slotVal, Array.getD_eq_getD_getElem?]
            rw [put_get_ne fun e => hs.own j o ho k hk (Ne.symm hjk) t e hd]
        rw [e]
        exact h0
  -- the operation itself
  simp only [wpList, hwant] at h
  split
  · rename_i hw
    simp only [hw, if_true] at h
    rcases h with h | ⟨_, x, y, h⟩
    · unfold Oper.wp at *
      rw [hexec] at h
      generalize (execOp a.eval o).run P w = r at *
      cases r with
      | ok n w' =>
        cases n <;> simp only [Oper.upon] at h ⊢
        case value v => exact next v w' (hcv _ h.later) h.says
        case skip => exact next undef w' (hcv _ h.later) h.says
        case defer d =>
          have := h.defers
          rw [put_defers_eq, ← hbd] at this
          exact absurd (congrArg List.length this) (by simp)
        case enter f args =>
          refine Calls.mono h fun e w'' he => ?_
          cases e with
          | returned v => exact next v w'' (hcv _ he.later) he.says
          | panicked c => exact absurd he.ends (by simp)
          | outgrown => obtain ⟨x, y, he⟩ := he; exact absurd he.ends (by simp)
        case row row args => exact Rows.mono h fun v w'' he => next v w'' (hcv _ he.later) he.says
      | halt x w' =>
        cases x <;> simp only [Oper.upon] at h ⊢
        case panic u => exact absurd h.ends (by simp)
    · exact absurd h.ends (by simp)
  · rename_i hw
    simp only [hw] at h
    exact next undef w (hcv _ h.later) h.says

theorem relAnyInS (hF : Free F) (hnd : noDefer ops.toList = true) (hs : RelSpec ops us cl all) (hm : ∀ (j : Nat) (v : Value) (w w' : World), le w w' → phi Fs j v w → phi Fs j v w') (hC : ∀ b w w', C b w → le0 w w' → le w w' ∧ C b w') {k : Nat} (hpk : p < k) (hk : relTailB ops cl k = true)
    (hob : ∀ (j : Nat) (o : Oper), j < k → ops[j]? = some o → (j = p → Ob P ops (fun W W' => le W W' ∧ C true W') (C false) Fs a0 o (us.getD j []) (phi Fs j)) ∧ (j ≠ p → ∀ b, Ob P ops le0 (C b) Fs a0 o (us.getD j []) (phi Fs j))) {Q : Exit → Act → World → Prop}
    (hfin : ∀ (u : Nat → Value) (w' : World), C true w' → facts Fs u w' (all.take k) → wpListIn F n P ops Q (ops.toList.drop k) (puts u (all.take k) a0) w') :
    ∀ (fuel : Nat) (listed : Array Bool) (a : Act) (w : World), listed.size = ops.size → (∀ j, k ≤ j → listed.getD j false = false) → (List.range k).countP (fun j => !listed.getD j true) = fuel → RelInvS ops p C Fs a0 listed a w →
      wpAnyIn F n P .any ops Q (fuel + (ops.size - k)) listed a w := by
  simp only [relTailB, Bool.and_eq_true, decide_eq_true_eq, List.all_eq_true, List.mem_range, Bool.or_eq_true, List.contains_iff_mem] at hk
  obtain ⟨⟨hkn, htail⟩, hseq⟩ := hk
  have done : ∀ (listed : Array Bool) (a : Act) (w : World), listed.size = ops.size → (∀ j, k ≤ j → listed.getD j false = false) → RelInvS ops p C Fs a0 listed a w → (∀ j, j < k → listed.getD j false = true) → wpListIn F n P ops Q (ops.toList.drop k) a w := by
    intro listed a w hsz hun hi hl
    have hall : all.take k = (List.range k).map fun j => (j, dstAt ops j) := by
      rw [← hs.all_, ← List.map_take, List.take_range, Nat.min_eq_left hkn]
    have e : a = puts (fun j => slotVal (dstAt ops j) a) (all.take k) a0 := by
      have ht : a.tmps = (puts (fun j => slotVal (dstAt ops j) a) (all.take k) a0).tmps := by
        apply Array.ext_getElem?
        intro t
        rcases Nat.lt_or_ge t a0.tmps.size with hlt | hge
        · by_cases hex : ∃ p ∈ all.take k, p.2 = some t
          · rw [puts_some _ _ _ hlt hex (v := a.tmps.getD t undef)]
            · have : t < a.tmps.size := by rw [hi.tsize]; exact hlt
              simp [this]
            · intro p hp e
              rw [hall] at hp
              obtain ⟨j, _, rfl⟩ := List.mem_map.1 hp
              simp only at e
              simp [e, slotVal]
          · rw [puts_none _ _ _ fun p hp e => hex ⟨p, hp, e⟩]
            refine hi.same t fun j hj hd => ?_
            rcases Nat.lt_or_ge j k with h | h
            · exact absurd ⟨(j, dstAt ops j), by rw [hall]; exact List.mem_map.2 ⟨j, List.mem_range.2 h, rfl⟩, hd⟩ hex
            · exact hun j h
        · rw [Array.getElem?_eq_none (by rw [hi.tsize]; exact hge), Array.getElem?_eq_none (by rw [puts_tsize]; exact hge)]
      have hd : a.defers = (puts (fun j => slotVal (dstAt ops j) a) (all.take k) a0).defers := by rw [puts_defers]; exact hi.defers
      cases a
      simp only at ht hd
      rw [show puts (fun j => slotVal (dstAt ops j) _) (all.take k) a0 = ⟨_, _⟩ from rfl, ← ht, ← hd]
    rw [e]
    refine hfin _ w (by have := hi.cls; rwa [hl p hpk] at this) ?_
    have H : ∀ (m : List (Nat × Option Tmp)), (∀ p ∈ m, p.1 < k ∧ dstAt ops p.1 = p.2) → facts Fs (fun j => slotVal (dstAt ops j) a) w m := by
      intro m
      induction m with
      | nil => intro _; trivial
      | cons p r ih => intro h; exact ⟨hi.fact p.1 (by have := (h p (List.mem_cons_self ..)).1; omega) (hl p.1 (h p (List.mem_cons_self ..)).1), ih fun q hq => h q (List.mem_cons_of_mem _ hq)⟩
    refine H _ fun p hp => ?_
    rw [hall] at hp
    obtain ⟨j, hj, rfl⟩ := List.mem_map.1 hp
    exact ⟨List.mem_range.1 hj, rfl⟩
  -- what may come up ahead of the tail is of the head
  have heads : ∀ (listed : Array Bool) (a : Act) (w : World), RelInvS ops p C Fs a0 listed a w → ∀ j ∈ Region.ready .any ops listed, j < k ∨ ∀ i, i < k → listed.getD i false = true := by
    intro listed a w hi j hj
    obtain ⟨_, o, ho, hall⟩ := mem_ready.1 hj
    rcases htail j (Array.getElem?_eq_some_iff.1 ho).1 with h | h
    · exact .inl h
    · exact .inr fun i hik => hs.listed hi.closed j j o (Nat.le_refl _) ho hall i (h i hik)
  intro fuel
  induction fuel with
  | zero =>
    intro listed a w hsz hun hcnt hi
    have hl : ∀ j, j < k → listed.getD j false = true := by
      intro j hj
      rw [List.countP_eq_zero] at hcnt
      have h1 := hcnt j (List.mem_range.2 hj)
      have hj' : j < listed.size := by omega
      simp [hj'] at h1 ⊢
      exact h1
    have el : listed = Array.replicate k true ++ Array.replicate (ops.size - k) false := by
      apply Array.ext
      · simp [hsz]; omega
      · intro j h1 h2
        rcases Nat.lt_or_ge j k with h | h
        · rw [Array.getElem_append_left (by simpa using h), Array.getElem_replicate]
          have := hl j h
          simpa [h1] using this
        · rw [Array.getElem_append_right (by simpa using h), Array.getElem_replicate]
          have := hun j h
          simpa [h1] using this
    have h := done listed a w hsz hun hi hl
    rw [Nat.zero_add, el]
    have := wpAnyIn_of_seq (F := F) (n := n) (md := .any) (Q' := Q) (ops.toList.drop k) k (Array.replicate k true ++ Array.replicate (ops.size - k) false) a w (fun j => by simp [List.getElem?_drop]) (by simpa using hseq) h
    simpa using this
  | succ fuel ih =>
    intro listed a w hsz hun hcnt hi
    rw [show fuel + 1 + (ops.size - k) = (fuel + (ops.size - k)) + 1 by omega]
    -- one of the head has not come up: something of the head may
    have hex : ¬ ∀ i, i < k → listed.getD i false = true := fun h => by
      have : (List.range k).countP (fun j => !listed.getD j true) = 0 := by
        rw [List.countP_eq_zero]
        intro j hj
        have hj := List.mem_range.1 hj
        have h1 := h j hj
        have hj' : j < listed.size := by omega
        simp [hj'] at h1 ⊢
        exact h1
      omega
    refine ⟨fun h0 => ?_, fun j hj => ?_⟩
    · exfalso
      apply hex
      intro j
      induction j using Nat.strongRecOn with
      | ind j ih2 =>
        intro hjk
        cases hl : listed.getD j false
        · have hjs : j < ops.size := by omega
          have : j ∈ Region.ready .any ops listed := by
            rw [mem_ready]
            refine ⟨?_, ops[j], Array.getElem?_eq_getElem _, fun e he hb => ?_⟩
            · have hj' : j < listed.size := by omega
              simp [hj'] at hl ⊢
              exact hl
            · have := hs.elder j ops[j] (Array.getElem?_eq_getElem _) e he hb
              exact ih2 e.on this (by omega)
          rw [h0] at this
          cases this
        · rfl
    · have hjk : j < k := (heads listed a w hi j hj).resolve_right hex
      obtain ⟨h1, o, ho, _⟩ := mem_ready.1 hj
      have hjs : j < ops.size := by omega
      refine wpOpIn_of_step hF hnd ho (fun a' w' h' => ih _ a' w' (by simpa using hsz) ?_ ?_ h') (relStepS hs hm hC hi ho (hob j o hjk ho) hj hsz)
      · intro i hik
        rw [getD_set_ne false (by omega)]
        exact hun i hik
      · have hsplit : List.range k = List.range j ++ j :: (List.range (k - (j + 1))).map (fun x => j + 1 + x) := by
          obtain ⟨m, hm'⟩ : ∃ m, k = j + 1 + m := ⟨k - (j + 1), by omega⟩
          rw [hm', List.range_add, List.range_succ]
          simp
        rw [hsplit, List.countP_append, List.countP_cons] at hcnt ⊢
        have hsame : ∀ (l : List Nat), j ∉ l → l.countP (fun i => !(listed.setIfInBounds j true).getD i true) = l.countP (fun i => !listed.getD i true) := fun l hl => by
          refine List.countP_congr fun i hi' => ?_
          have hne : j ≠ i := fun e => hl (by rw [e]; exact hi')
          rw [getD_set_ne true hne]
        have m1 := hsame (List.range j) (by simp)
        have m2 := hsame ((List.range (k - (j + 1))).map (fun x => j + 1 + x)) (by simp; omega)
        have e1 : (!listed.getD j true) = true := by rw [h1]; rfl
        have e2 : (!(listed.setIfInBounds j true).getD j true) = false := by
          have : j < listed.size := by omega
          simp [this]
        rw [e1, if_pos rfl] at hcnt
        rw [m1, m2, e2, if_neg (by simp)]
        omega

theorem wpIn_region_relS {id : Nat} {Q : Exit → Act → World → Prop} {w : World} {l : List Oper} (hF : Free F) (hnd : noDefer l = true) (k : Nat) (le le0 : World → World → Prop) (p : Nat) (C : Bool → World → Prop) (Fs : List (Value → World → Prop)) (us : List (List (Nat × Option Tmp))) (cl : List (List Nat)) (all : List (Nat × Option Tmp))
    (hm : P.follows .mixedOrders = true) (hB : relB l.toArray us cl all = true) (hT : relTailB l.toArray cl k = true) (hC : ∀ b w w', C b w → le0 w w' → le w w' ∧ C b w') (hpk : p < k) (h0 : C false w.drew) (hmono : AllMono le Fs) (hob : AllObS P l.toArray le le0 p C Fs a0 0 (l.take k) (us.take k) (Fs.take k))
    (hfin : ∀ (u : Nat → Value) (w' : World), C true w' → facts Fs u w' (all.take k) → ∀ a, a = puts u (all.take k) a0 → wpListIn F n P l.toArray Q (l.drop k) a w') : (Code.region id l.toArray true).wpIn F n P Q a0 w := by
  refine wpIn_region_any hm ?_
  have hkn : k ≤ l.toArray.size := by
    simp only [relTailB, Bool.and_eq_true, decide_eq_true_eq] at hT
    exact hT.1.1
  have hkl : k ≤ l.length := by simpa using hkn
  have hlen : ∀ {j0 : Nat} {x : List Oper} {y : List (List (Nat × Option Tmp))} {z : List (Value → World → Prop)}, AllObS P l.toArray le le0 p C Fs a0 j0 x y z → x.length = y.length ∧ x.length = z.length := by
    intro j0 x y z h
    induction h with
    | nil => exact ⟨rfl, rfl⟩
    | cons _ _ _ ih => exact ⟨by simp [ih.1], by simp [ih.2]⟩
    | call _ _ ih => exact ⟨by simp [ih.1], by simp [ih.2]⟩
  have hl3 := hlen hob
  rw [List.length_take, Nat.min_eq_left hkl, List.length_take, List.length_take] at hl3
  have := relAnyInS (F := F) (n := n) (Q := Q) hF (by simpa using hnd) (relB_spec hB) hmono.get hC hpk hT (fun j o hjk ho => by
    have h := hob.get j o (by rw [List.getElem?_take, if_pos hjk]; simpa using ho)
    have e1 : (us.take k).getD j [] = us.getD j [] := by
      simp only [List.getD_eq_getElem?_getD, List.getElem?_take, if_pos hjk]
    have e2 : (((Fs.take k)[j]?).getD fun _ _ => True) = phi Fs j := by
      simp only [phi, List.getElem?_take, if_pos hjk]
    rw [e1, e2, Nat.zero_add] at h
    exact h) (fun u w' h1 h2 => by simpa using hfin u w' h1 h2 _ rfl) k (Array.replicate l.toArray.size false) a0 w.drew (by simp) (fun j _ => by
      simp only [Array.getD_eq_getD_getElem?, Array.getElem?_replicate]
      split <;> rfl) ?_ ⟨?_, (by rw [show (Array.replicate l.toArray.size false).getD p false = false from by simp only [Array.getD_eq_getD_getElem?, Array.getElem?_replicate]; split <;> rfl]; exact h0), rfl, rfl, fun _ _ => rfl, ?_⟩
  · rwa [show k + (l.toArray.size - k) = l.toArray.size by omega] at this
  · rw [List.countP_eq_length.2, List.length_range]
    intro j hj
    have hj := List.mem_range.1 hj
    have : j < l.toArray.size := by omega
    simp only [Array.getD_eq_getD_getElem?, Array.getElem?_replicate, if_pos this]
    rfl
  · intro i o ho hl
    simp only [Array.getD_eq_getD_getElem?, Array.getElem?_replicate] at hl
    split at hl <;> simp at hl
  · intro k hk hl
    simp only [Array.getD_eq_getD_getElem?, Array.getElem?_replicate] at hl
    split at hl <;> simp at hl
end
end Go.Proofs.Ytkiiobfomnggcaa
