/-
  Drawn regions that lay marks on constant rows: what is known of a value stands behind a mark.
-/
import Derived.Test.YtbphoilfiahnpaaRelB
namespace Go.Proofs.Ytbphoilfiahnpaa
open Go.RowKit
set_option linter.unusedVariables false

/-- What lay below 'base' lies; of what was made behind, marks alone have changed. -/
def LeM (base : Nat) (w w' : World) : Prop :=
  Below base w w' ∧ w.heap.size ≤ w'.heap.size ∧ ∀ g, g < w.heap.size → w'.heap[g]? = w.heap[g]? ∨ ∃ cs t m m', w.heap[g]? = some (.cells cs t m) ∧ w'.heap[g]? = some (.cells cs t m')
theorem LeM.refl (base : Nat) (w : World) : LeM base w w := ⟨Below.refl _ _, Nat.le_refl _, fun _ _ => .inl rfl⟩
theorem LeM.of_below {base : Nat} {w w' : World} (h : base ≤ w.heap.size) (hb : Below w.heap.size w w') : LeM base w w' := ⟨hb.mono h, hb.size, fun g hg => .inl (hb.block g hg)⟩
theorem LeM.cell {base : Nat} {w w' : World} (h : LeM base w w') {p : Addr} (hp : p.block < w.heap.size) : w'.cell? p = w.cell? p := by
  rcases h.2.2 p.block hp with e | ⟨cs, t, m, m', e, e'⟩
  · simp only [World.cell?, e]
  · simp only [World.cell?, e, e']
theorem LeM.freeze {base : Nat} {w : World} {g k : Nat} {cs : Array Value} {t : TypeId} {m : Nat × Nat} (hg : base ≤ g) (hb : w.heap[g]? = some (.cells cs t m)) : LeM base w (w.freeze ⟨g, k, none⟩ 1) ∧ ∃ m', (w.freeze ⟨g, k, none⟩ 1).heap[g]? = some (.cells cs t m') := by
  have he : ∀ j, (w.freeze ⟨g, k, none⟩ 1).heap[j]? = if g = j then some (.cells cs t (if m.1 == m.2 then (k, k + 1) else (min m.1 k, max m.2 (k + 1)))) else w.heap[j]? := by
    intro j
    unfold World.freeze
    rw [if_neg (by decide)]
    simp only [Array.getElem?_modify]
    split
    · rename_i h
      subst h
      rw [hb]
      rfl
    · rfl
  refine ⟨⟨⟨rfl, rfl, rfl, ?_, fun j hj => ?_⟩, ?_, fun j hj => ?_⟩, _, by rw [he, if_pos rfl]⟩
  · simp [World.freeze]
  · rw [he, if_neg (by omega)]
  · simp [World.freeze]
  · rw [he]
    by_cases e : g = j
    · subst e
      rw [if_pos rfl]
      exact .inr ⟨cs, t, m, _, hb, rfl⟩
    · rw [if_neg e]
      exact .inl rfl

/-- A row of constant bytes of the region's own. -/
def RelK (base n : Nat) (bs : List UInt8) : Value → World → Prop := fun v w => ∃ g m, v = .slice (some ⟨g, 0, none⟩) n n ∧ base ≤ g ∧ w.heap[g]? = some (.cells (bs.map b8).toArray 5 m) ∧ bs.length = n ∧ n ≤ maxLen
section
variable {base : Nat}
theorem Det.laterM {c : Value} (v : Value) (w w' : World) (hb : LeM base w w') (h : Det c v w) : Det c v w' := h
theorem Any.laterM (v : Value) (w w' : World) (hb : LeM base w w') (h : Any v w) : Any v w' := h
theorem RelB.laterM {n : Nat} {bs : List UInt8} (v : Value) (w w' : World) (hb : LeM base w w') (h : RelB n bs v w) : RelB n bs v w' :=
  let ⟨A, c, e, hs⟩ := h
  ⟨A, c, e, (hs.keep fun _ hp => hb.cell hp).more hb.2.1⟩
theorem RelP.laterM {n : Nat} {bss : List (List UInt8)} (v : Value) (w w' : World) (hb : LeM base w w') (h : RelP n bss v w) : RelP n bss v w' :=
  let ⟨A, c, e, ls, h1, h2, h3⟩ := h
  ⟨A, c, e, ls, h1, (Sl.keep h2 fun _ hp => hb.cell hp).more hb.2.1, fun i l bs a b => ((h3 i l bs a b).keep fun _ hp => hb.cell hp).more hb.2.1⟩
theorem RelK.laterM {b n : Nat} {bs : List UInt8} (v : Value) (w w' : World) (hb : LeM base w w') (h : RelK b n bs v w) : RelK b n bs v w' := by
  obtain ⟨g, m, e, h1, h2, h3, h4⟩ := h
  have hg : g < w.heap.size := by
    rcases Nat.lt_or_ge g w.heap.size with hlt | hge
    · exact hlt
    · rw [Array.getElem?_eq_none hge] at h2; cases h2
  rcases hb.2.2 g hg with e' | ⟨cs, t, m1, m', e1, e2⟩
  · exact ⟨g, m, e, h1, e'.trans h2, h3, h4⟩
  · rw [h2] at e1
    cases e1
    exact ⟨g, m', e, h1, e2, h3, h4⟩
end
theorem RelK.relB {base n : Nat} {bs : List UInt8} {v : Value} {w : World} (h : RelK base n bs v w) : RelB n bs v w := by
  obtain ⟨g, m, e, h1, h2, h3, h4⟩ := h
  have hg : g < w.heap.size := by
    rcases Nat.lt_or_ge g w.heap.size with hlt | hge
    · exact hlt
    · rw [Array.getElem?_eq_none hge] at h2; cases h2
  refine ⟨_, _, e, by simpa using h3, Nat.le_refl _, h4, fun _ => ⟨g, 0, rfl, hg, fun j u hu => ?_⟩⟩
  simp only [World.cell?, h2, Nat.zero_add]
  simpa using hu
theorem RelK.new {w : World} (base : Nat) (bs : List UInt8) (n : Nat) (hb : base ≤ w.heap.size) (hn : bs.length = n) (hx : n ≤ maxLen) (cur : Array Value) (hc : cur = (bs.map b8).toArray) : RelK base n bs (.slice (some ⟨w.heap.size, 0, none⟩) n n) (w.alloc (.cells cur 5)) := by
  subst hc
  exact ⟨w.heap.size, (0, 0), rfl, hb, Blk.new w _ _, hn, hx⟩
/-- '[]byte("..")' of a constant: the row gets its mark. -/
theorem run_mark {w : World} {g : Nat} {cs : Array Value} {t : TypeId} {m : Nat × Nat} (n c : Nat) (hb : w.heap[g]? = some (.cells cs t m)) :
    (convert 31 31 (.slice (some ⟨g, 0, none⟩) n c)).run Try.prog w = .ok (.slice (some ⟨g, 0, none⟩) n c) (w.freeze ⟨g, cs.size, none⟩ 1) := by
  have hsh : w.shape? g = some (t, cs.size) := by
    unfold World.shape?
    rw [hb]
  simp [convert, run_underlying Try.underlying31, run_underlying Try.underlying5, markStringish, hsh]
end Go.Proofs.Ytbphoilfiahnpaa
