/-
  Apart at two lists.
-/
import Derived.Test.YtbphoilfiahnpaaApart
namespace Go.Proofs.Ytbphoilfiahnpaa
open Go.RowKit
set_option linter.unusedVariables false

theorem far_of_base {w : World} {base : Nat} {A A' : Option Addr} {n c n' c' : Nat} {bs : List UInt8} (h : OwB w base A n c bs) (h' : ∀ g, wrote A' c' = some g → g < base) : Lst.far ⟨A, n, c⟩ ⟨A', n', c'⟩ := by
  unfold Lst.far
  rcases Row.wrote_lt h with h1 | ⟨g, _, h1, hg, _⟩
  · exact .inl h1
  · right
    simp only
    rw [h1]
    intro e
    have := h' g e.symm
    omega

/-- Apart at two lists. -/
theorem apart2_c {w : World} {base : Nat} {A1 A2 : Option Addr} {n1 c1 n2 c2 : Nat} {bs1 bs2 : List UInt8} (h1 : OwB w base A1 n1 c1 bs1) (h2 : OwB w base A2 n2 c2 bs2) (hn1 : n1 ≤ 140737488355000) (hn2 : n2 ≤ 140737488355000)
    (hbase : base ≤ w.heap.size) (hf : Lst.far ⟨A1, n1, c1⟩ ⟨A2, n2, c2⟩) :
    Calls Try.prog 49 #[.slice (some ⟨w.heap.size, 0, none⟩) 2 2] (w.alloc (.cells #[.slice A1 n1 c1, .slice A2 n2 c2] 31)) fun e w' => e = .returned (.bool true) ∧ Below base (w.alloc (.cells #[.slice A1 n1 c1, .slice A2 n2 c2] 31)) w' := by
  refine apart_c (ls := [⟨A1, n1, c1⟩, ⟨A2, n2, c2⟩]) ?_ (Nat.le_trans hbase (by simp)) ?_ ?_ ?_ (by omega)
  · exact Row.new w base 31 1 #[.slice A1 n1 c1, .slice A2 n2 c2] 2 2 hbase (Nat.le_refl _) (by simp [maxLen]) rfl
  · intro m l hm
    match m, hm with
    | 0, hm => simp at hm; subst hm; exact ⟨bs1, h1.alloc _, fun h => absurd h (by omega)⟩
    | 1, hm => simp at hm; subst hm; exact ⟨bs2, h2.alloc _, fun h => absurd h (by omega)⟩
  · intro l hl
    simp at hl
    rcases hl with rfl | rfl
    · exact hn1
    · exact hn2
  · intro i j l m hne hi hj
    match i, j, hi, hj with
    | 0, 0, _, _ => exact absurd rfl hne
    | 1, 1, _, _ => exact absurd rfl hne
    | 0, 1, hi, hj => simp at hi hj; subst hi; subst hj; exact hf
    | 1, 0, hi, hj => simp at hi hj; subst hi; subst hj; exact Lst.far_symm (l := ⟨A1, n1, c1⟩) (m := ⟨A2, n2, c2⟩) hf
end Go.Proofs.Ytbphoilfiahnpaa
