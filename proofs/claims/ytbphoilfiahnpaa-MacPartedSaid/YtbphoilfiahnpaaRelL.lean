/-
  Drawn regions that build one row of bytes piece by piece: rows that read as the beginning of it stay.
-/
import Derived.Test.YtbphoilfiahnpaaRelB
import Derived.Test.YtbphoilfiahnpaaApart
import Derived.Test.YtbphoilfiahnpaaZeros
namespace Go.Proofs.Ytbphoilfiahnpaa
open Go.RowKit
set_option linter.unusedVariables false

/-- What lay below 'base' lies; rows of the region's own that read as a beginning of L stay. -/
def LeL (base : Nat) (L : List UInt8) (w w' : World) : Prop :=
  Below base w w' ∧ w.heap.size ≤ w'.heap.size ∧ ∀ (A : Option Addr) (k c : Nat), k ≤ L.length → OwB w base A k c (L.take k) → OwB w' base A k c (L.take k)
theorem LeL.refl (base : Nat) (L : List UInt8) (w : World) : LeL base L w w := ⟨Below.refl _ _, Nat.le_refl _, fun _ _ _ _ h => h⟩
theorem LeL.of_below {base : Nat} {L : List UInt8} {w w' : World} (h : base ≤ w.heap.size) (hb : Below w.heap.size w w') : LeL base L w w' := ⟨hb.mono h, hb.size, fun _ _ _ _ h => h.below hb⟩
/-- The append that ends L. -/
theorem LeL.went {base : Nat} {L : List UInt8} {w w' : World} {A A' : Option Addr} {n c m c' : Nat} (q : Went w w' A n c m A' c') (hbase : base ≤ w.heap.size) (h : OwB w base A n c (L.take n)) (h' : OwB w' base A' (n + m) c' (L.take (n + m))) (hL : L.length ≤ n + m) : LeL base L w w' := by
  have hb : Below base w w' := q.below h (Below.refl _ _) (Nat.le_refl _) hbase
  refine ⟨hb, q.grown.size, fun B k cB hkL hB => ?_⟩
  by_cases hne : wrote B cB = none ∨ wrote B cB ≠ wrote A c
  · exact Row.keepRow hB q.grown hne
  · rcases q with ⟨_, rfl, rfl, hg⟩ | ⟨_, _, _, hg⟩
    · have h1 : wrote B cB ≠ none := fun e => hne (.inl e)
      have h2 : wrote B cB = wrote A' c' := Classical.byContradiction fun e => hne (.inr e)
      have hcB : 0 < cB := by
        rcases Nat.eq_zero_or_pos cB with e | e
        · exact absurd (by simp [wrote, e]) h1
        · exact e
      obtain ⟨g, cur, rfl, hgb, hb1, hs, ht⟩ := hB.2.2.2 hcB
      have hwB : wrote (some ⟨g, 0, none⟩) cB = some g := by rw [wrote, if_neg (by omega)]; rfl
      rw [hwB] at h2
      have hc' : 0 < c' := by
        rcases Nat.eq_zero_or_pos c' with e | e
        · rw [e] at h2; simp [wrote] at h2
        · exact e
      obtain ⟨g1, cur1, rfl, _, hb2, hs1, _⟩ := h.2.2.2 hc'
      have hwA : wrote (some ⟨g1, 0, none⟩) c' = some g1 := by rw [wrote, if_neg (by omega)]; rfl
      rw [hwA] at h2
      have h2 := Option.some.inj h2
      subst h2
      obtain ⟨g2, cur2, e2, _, hb3, hs2, ht2⟩ := h'.2.2.2 hc'
      simp only [Option.some.injEq, Addr.mk.injEq, and_true] at e2
      subst e2
      -- the elder row is no longer than the new one, or it reads on behind it
      unfold Blk at hb1 hb2
      rw [hb1] at hb2
      simp only [Option.some.injEq, Obj.cells.injEq, and_true] at hb2
      obtain ⟨rfl, _⟩ := hb2
      have hk : k ≤ n + m := Nat.le_trans hkL hL
      refine ⟨hB.1, hB.2.1, hB.2.2.1, fun _ => ⟨g, cur2, rfl, hgb, hb3, by rw [hs2]; rw [hs] at hs1; exact hs1.symm, ?_⟩⟩
      rw [Nat.mul_one] at ht2 ⊢
      have : (cur2.toList.take (n + m)).take k = ((L.take (n + m)).map b8).take k := by rw [ht2]
      rw [List.take_take, Nat.min_eq_left hk, ← List.map_take, List.take_take, Nat.min_eq_left hk] at this
      exact this
    · exact Row.keepRow hB hg (.inr (fun e => hne (.inl e)))
/-- A row of the region's own that reads as the beginning of L. -/
def RelL (base : Nat) (L : List UInt8) (n : Nat) : Value → World → Prop := fun v w => n ≤ L.length ∧ ∃ A c, v = .slice A n c ∧ OwB w base A n c (L.take n)
/-- An empty row without room. -/
def RelE : Value → World → Prop := fun v _ => ∃ A, v = .slice A 0 0
section
variable {base : Nat} {L : List UInt8}
theorem Det.laterL {c : Value} (v : Value) (w w' : World) (hb : LeL base L w w') (h : Det c v w) : Det c v w' := h
theorem Any.laterL (v : Value) (w w' : World) (hb : LeL base L w w') (h : Any v w) : Any v w' := h
theorem RelE.laterL (v : Value) (w w' : World) (hb : LeL base L w w') (h : RelE v w) : RelE v w' := h
theorem RelL.laterL {n : Nat} (v : Value) (w w' : World) (hb : LeL base L w w') (h : RelL base L n v w) : RelL base L n v w' :=
  let ⟨hn, A, c, e, hs⟩ := h
  ⟨hn, A, c, e, hb.2.2 A n c hn hs⟩
end
end Go.Proofs.Ytbphoilfiahnpaa
