/-
  A region that draws its order inside a fence: its head each operation by itself, then its tail in the one order that is left.
-/
import Derived.Test.YtbphoilfiahnpaaRel
import Derived.Test.YtbphoilfiahnpaaRng
namespace Go.Proofs.Ytbphoilfiahnpaa
open Go.RowKit
set_option linter.unusedVariables false

/-- The closed facts on head and tail: the tail's operations wait for the whole head, and come one behind the other. -/
def relTailB (ops : Array Oper) (cl : List (List Nat)) (k : Nat) : Bool :=
  decide (k ≤ ops.size) && ((List.range ops.size).all fun j => decide (j < k) || (List.range k).all fun i => (cl.getD j []).contains i) &&
  Region.seqB .any ops (ops.size - k) k (Array.replicate k true ++ Array.replicate (ops.size - k) false)

section
variable {F : Fence} {n : Nat} {P : Program} {ops : Array Oper} {le : World → World → Prop} {C : World → Prop} {Fs : List (Value → World → Prop)} {us : List (List (Nat × Option Tmp))} {cl : List (List Nat)} {all : List (Nat × Option Tmp)} {a0 : Act}

theorem wpOpIn_of_step (hF : Free F) (hnd : noDefer ops.toList = true) {j : Nat} {o : Oper} (ho : ops[j]? = some o) {a : Act} {w : World} {K K' : Act → World → Prop} {Q : Exit → Act → World → Prop} (hK : ∀ a w, K a w → K' a w)
    (h : if Region.wanted o (yielded ops a.tmps) then o.wp P a w K Q else K (a.put o.dst undef) w) : wpOpIn F n P ops Q j K' a w := by
  unfold wpOpIn
  simp only [ho]
  have hod : ∀ c, o.op ≠ .defer c := noDefer_op (List.all_eq_true.1 hnd o (by
    have := Array.mem_of_getElem? ho
    simpa using this))
  split
  · rename_i hw
    rw [if_pos hw] at h
    exact wpIn_of_wp hF hod hK h
  · rename_i hw
    rw [if_neg hw] at h
    exact ⟨fun f _ => hF.fn f, hK _ _ h⟩

theorem relAnyIn (hF : Free F) (hnd : noDefer ops.toList = true) (hs : RelSpec ops us cl all) (hm : ∀ (j : Nat) (v : Value) (w w' : World), le w w' → phi Fs j v w → phi Fs j v w') (hC : ∀ w w', C w → le w w' → C w') {k : Nat} (hk : relTailB ops cl k = true)
    (hob : ∀ (j : Nat) (o : Oper), j < k → ops[j]? = some o → Ob P ops le C Fs a0 o (us.getD j []) (phi Fs j)) {Q : Exit → Act → World → Prop}
    (hfin : ∀ (u : Nat → Value) (w' : World), C w' → facts Fs u w' (all.take k) → wpListIn F n P ops Q (ops.toList.drop k) (puts u (all.take k) a0) w') :
    ∀ (fuel : Nat) (listed : Array Bool) (a : Act) (w : World), listed.size = ops.size → (∀ j, k ≤ j → listed.getD j false = false) → (List.range k).countP (fun j => !listed.getD j true) = fuel → RelInv ops C Fs a0 listed a w →
      wpAnyIn F n P .any ops Q (fuel + (ops.size - k)) listed a w := by
  simp only [relTailB, Bool.and_eq_true, decide_eq_true_eq, List.all_eq_true, List.mem_range, Bool.or_eq_true, List.contains_iff_mem] at hk
  obtain ⟨⟨hkn, htail⟩, hseq⟩ := hk
  have done : ∀ (listed : Array Bool) (a : Act) (w : World), listed.size = ops.size → (∀ j, k ≤ j → listed.getD j false = false) → RelInv ops C Fs a0 listed a w → (∀ j, j < k → listed.getD j false = true) → wpListIn F n P ops Q (ops.toList.drop k) a w := by
    intro listed a w hsz hun hi hl
    have hall : all.take k = (List.range k).map fun j => (j, dstAt ops j) := by
      rw [← hs.all_, ← List.map_take, List.take_range, Nat.min_eq_left hkn]
    have e : a = puts (fun j => slotVal (dstAt ops j) a) (all.take k) a0 := by
      have ht : a.tmps = (puts (fun j => slotVal (dstAt ops j) a) (all.take k) a0).tmps := by
        apply Array.ext_getElem?
        intro t
        rcases Nat.lt_or_ge t a0.tmps.size with hlt | hge
        · by_cases hex : ∃ p ∈ all.take k, p.2 = some t
          · rw [puts_some _ _ _ hlt hex (v := a.tmps.getD t undef)]
            · have : t < a.tmps.size := by rw [hi.tsize]; exact hlt
              simp [this]
            · intro p hp e
              rw [hall] at hp
              obtain ⟨j, _, rfl⟩ := List.mem_map.1 hp
              simp only at e
              simp [e, slotVal]
          · rw [puts_none _ _ _ fun p hp e => hex ⟨p, hp, e⟩]
            refine hi.same t fun j hj hd => ?_
            rcases Nat.lt_or_ge j k with h | h
            · exact absurd ⟨(j, dstAt ops j), by rw [hall]; exact List.mem_map.2 ⟨j, List.mem_range.2 h, rfl⟩, hd⟩ hex
            · exact hun j h
        · rw [Array.getElem?_eq_none (by rw [hi.tsize]; exact hge), Array.getElem?_eq_none (by rw [puts_tsize]; exact hge)]
      have hd : a.defers = (puts (fun j => slotVal (dstAt ops j) a) (all.take k) a0).defers := by rw [puts_defers]; exact hi.defers
      cases a
      simp only at ht hd
      rw [show puts (fun j => slotVal (dstAt ops j) _) (all.take k) a0 = ⟨_, _⟩ from rfl, ← ht, ← hd]
    rw [e]
    refine hfin _ w hi.cls ?_
    have H : ∀ (m : List (Nat × Option Tmp)), (∀ p ∈ m, p.1 < k ∧ dstAt ops p.1 = p.2) → facts Fs (fun j => slotVal (dstAt ops j) a) w m := by
      intro m
      induction m with
      | nil => intro _; trivial
      | cons p r ih => intro h; exact ⟨hi.fact p.1 (by have := (h p (List.mem_cons_self ..)).1; omega) (hl p.1 (h p (List.mem_cons_self ..)).1), ih fun q hq => h q (List.mem_cons_of_mem _ hq)⟩
    refine H _ fun p hp => ?_
    rw [hall] at hp
    obtain ⟨j, hj, rfl⟩ := List.mem_map.1 hp
    exact ⟨List.mem_range.1 hj, rfl⟩
  -- what may come up ahead of the tail is of the head
  have heads : ∀ (listed : Array Bool) (a : Act) (w : World), RelInv ops C Fs a0 listed a w → ∀ j ∈ Region.ready .any ops listed, j < k ∨ ∀ i, i < k → listed.getD i false = true := by
    intro listed a w hi j hj
    obtain ⟨_, o, ho, hall⟩ := mem_ready.1 hj
    rcases htail j (Array.getElem?_eq_some_iff.1 ho).1 with h | h
    · exact .inl h
    · exact .inr fun i hik => hs.listed hi.closed j j o (Nat.le_refl _) ho hall i (h i hik)
  intro fuel
  induction fuel with
  | zero =>
    intro listed a w hsz hun hcnt hi
    have hl : ∀ j, j < k → listed.getD j false = true := by
      intro j hj
      rw [List.countP_eq_zero] at hcnt
      have h1 := hcnt j (List.mem_range.2 hj)
      have hj' : j < listed.size := by omega
      simp [hj'] at h1 ⊢
      exact h1
    have el : listed = Array.replicate k true ++ Array.replicate (ops.size - k) false := by
      apply Array.ext
      · simp [hsz]; omega
      · intro j h1 h2
        rcases Nat.lt_or_ge j k with h | h
        · rw [Array.getElem_append_left (by simpa using h), Array.getElem_replicate]
          have := hl j h
          simpa [h1] using this
        · rw [Array.getElem_append_right (by simpa using h), Array.getElem_replicate]
          have := hun j h
          simpa [h1] using this
    have h := done listed a w hsz hun hi hl
    rw [Nat.zero_add, el]
    have := wpAnyIn_of_seq (F := F) (n := n) (md := .any) (Q' := Q) (ops.toList.drop k) k (Array.replicate k true ++ Array.replicate (ops.size - k) false) a w (fun j => by simp [List.getElem?_drop]) (by simpa using hseq) h
    simpa using this
  | succ fuel ih =>
    intro listed a w hsz hun hcnt hi
    rw [show fuel + 1 + (ops.size - k) = (fuel + (ops.size - k)) + 1 by omega]
    -- one of the head has not come up: something of the head may
    have hex : ¬ ∀ i, i < k → listed.getD i false = true := fun h => by
      have : (List.range k).countP (fun j => !listed.getD j true) = 0 := by
        rw [List.countP_eq_zero]
        intro j hj
        have hj := List.mem_range.1 hj
        have h1 := h j hj
        have hj' : j < listed.size := by omega
        simp [hj'] at h1 ⊢
        exact h1
      omega
    refine ⟨fun h0 => ?_, fun j hj => ?_⟩
    · exfalso
      apply hex
      intro j
      induction j using Nat.strongRecOn with
      | ind j ih2 =>
        intro hjk
        cases hl : listed.getD j false
        · have hjs : j < ops.size := by omega
          have : j ∈ Region.ready .any ops listed := by
            rw [mem_ready]
            refine ⟨?_, ops[j], Array.getElem?_eq_getElem _, fun e he hb => ?_⟩
            · have hj' : j < listed.size := by omega
              simp [hj'] at hl ⊢
              exact hl
            · have := hs.elder j ops[j] (Array.getElem?_eq_getElem _) e he hb
              exact ih2 e.on this (by omega)
          rw [h0] at this
          cases this
        · rfl
    · have hjk : j < k := (heads listed a w hi j hj).resolve_right hex
      obtain ⟨h1, o, ho, _⟩ := mem_ready.1 hj
      have hjs : j < ops.size := by omega
      refine wpOpIn_of_step hF hnd ho (fun a' w' h' => ih _ a' w' (by simpa using hsz) ?_ ?_ h') (relStep1 hs hm hC hi ho (hob j o hjk ho) hj hsz)
      · intro i hik
        rw [getD_set_ne false (by omega)]
        exact hun i hik
      · have hsplit : List.range k = List.range j ++ j :: (List.range (k - (j + 1))).map (fun x => j + 1 + x) := by
          obtain ⟨m, hm'⟩ : ∃ m, k = j + 1 + m := ⟨k - (j + 1), by omega⟩
          rw [hm', List.range_add, List.range_succ]
          simp
        rw [hsplit, List.countP_append, List.countP_cons] at hcnt ⊢
        have hsame : ∀ (l : List Nat), j ∉ l → l.countP (fun i => !(listed.setIfInBounds j true).getD i true) = l.countP (fun i => !listed.getD i true) := fun l hl => by
          refine List.countP_congr fun i hi' => ?_
          have hne : j ≠ i := fun e => hl (by rw [e]; exact hi')
          rw [getD_set_ne true hne]
        have m1 := hsame (List.range j) (by simp)
        have m2 := hsame ((List.range (k - (j + 1))).map (fun x => j + 1 + x)) (by simp; omega)
        have e1 : (!listed.getD j true) = true := by rw [h1]; rfl
        have e2 : (!(listed.setIfInBounds j true).getD j true) = false := by
          have : j < listed.size := by omega
          simp [this]
        rw [e1, if_pos rfl] at hcnt
        rw [m1, m2, e2, if_neg (by simp)]
        omega

theorem wpIn_region_rel {id : Nat} {Q : Exit → Act → World → Prop} {w : World} {l : List Oper} (hF : Free F) (hnd : noDefer l = true) (k : Nat) (le : World → World → Prop) (C : World → Prop) (Fs : List (Value → World → Prop)) (us : List (List (Nat × Option Tmp))) (cl : List (List Nat)) (all : List (Nat × Option Tmp))
    (hm : P.follows .mixedOrders = true) (hB : relB l.toArray us cl all = true) (hT : relTailB l.toArray cl k = true) (hC : ∀ w w', C w → le w w' → C w') (h0 : C w.drew) (hmono : AllMono le Fs) (hob : AllOb P l.toArray le C Fs a0 (l.take k) (us.take k) (Fs.take k))
    (hfin : ∀ (u : Nat → Value) (w' : World), C w' → facts Fs u w' (all.take k) → ∀ a, a = puts u (all.take k) a0 → wpListIn F n P l.toArray Q (l.drop k) a w') : (Code.region id l.toArray true).wpIn F n P Q a0 w := by
  refine wpIn_region_any hm ?_
  have hkn : k ≤ l.toArray.size := by
    simp only [relTailB, Bool.and_eq_true, decide_eq_true_eq] at hT
    exact hT.1.1
  have hkl : k ≤ l.length := by simpa using hkn
  have hlen : ∀ {x : List Oper} {y : List (List (Nat × Option Tmp))} {z : List (Value → World → Prop)}, AllOb P l.toArray le C Fs a0 x y z → x.length = y.length ∧ x.length = z.length := by
    intro x y z h
    induction h with
    | nil => exact ⟨rfl, rfl⟩
    | cons _ _ ih => exact ⟨by simp [ih.1], by simp [ih.2]⟩
  have hl3 := hlen hob
  rw [List.length_take, Nat.min_eq_left hkl, List.length_take, List.length_take] at hl3
  have := relAnyIn (F := F) (n := n) (Q := Q) hF (by simpa using hnd) (relB_spec hB) hmono.get hC hT (fun j o hjk ho => by
    have h := hob.get j o (by rw [List.getElem?_take, if_pos hjk]; simpa using ho)
    have e1 : (us.take k).getD j [] = us.getD j [] := by
      simp only [List.getD_eq_getElem?_getD, List.getElem?_take, if_pos hjk]
    have e2 : (((Fs.take k)[j]?).getD fun _ _ => True) = phi Fs j := by
      simp only [phi, List.getElem?_take, if_pos hjk]
    rw [e1, e2] at h
    exact h) (fun u w' h1 h2 => by simpa using hfin u w' h1 h2 _ rfl) k (Array.replicate l.toArray.size false) a0 w.drew (by simp) (fun j _ => by
      simp only [Array.getD_eq_getD_getElem?, Array.getElem?_replicate]
      split <;> rfl) ?_ ⟨?_, h0, rfl, rfl, fun _ _ => rfl, ?_⟩
  · rwa [show k + (l.toArray.size - k) = l.toArray.size by omega] at this
  · rw [List.countP_eq_length.2, List.length_range]
    intro j hj
    have hj := List.mem_range.1 hj
    have : j < l.toArray.size := by omega
    simp only [Array.getD_eq_getD_getElem?, Array.getElem?_replicate, if_pos this]
    rfl
  · intro i o ho hl
    simp only [Array.getD_eq_getD_getElem?, Array.getElem?_replicate] at hl
    split at hl <;> simp at hl
  · intro k hk hl
    simp only [Array.getD_eq_getD_getElem?, Array.getElem?_replicate] at hl
    split at hl <;> simp at hl
end
end Go.Proofs.Ytbphoilfiahnpaa
