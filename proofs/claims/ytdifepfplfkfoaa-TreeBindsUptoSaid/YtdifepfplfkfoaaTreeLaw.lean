/-
  The plain law of trees: what a climb does to a tree, and that a tree is made by its leaves.
-/
import Derived.Test.YtdifepfplfkfoaaClimb
namespace Go.Proofs.Ytdifepfplfkfoaa
open Go.RowKit
set_option linter.unusedVariables false
set_option linter.unusedSimpArgs false
set_option maxRecDepth 100000

/-- Each node joins its children. -/
def IsTree (key xs : List UInt8) : Prop := xs.length = 32 * 32 ∧ ∀ i, 1 ≤ i → i < 16 → elt xs i = joinOf key (i : Int) (elt xs (2 * i)) (elt xs (2 * i + 1))

theorem isTree_build {key leaves : List UInt8} (h : leaves.length = 16 * 32) : IsTree key (buildT key leaves) := ⟨len_buildT h, fun i h1 h2 => build_node h h1 h2⟩

theorem putS_self {xs : List UInt8} {i : Nat} (h : xs.length = 32 * 32) (hi : i < 32) : putS xs i (elt xs i) = xs := by
  have hl := len_elt h hi
  refine elts_eq (n := 32) (len_putS h hi hl) h fun j hj => ?_
  rw [elt_putS h hi hl]
  split
  · subst_vars; rfl
  · rfl

/-- A climb with the leaf that stands there leaves the tree as it was. -/
theorem climb_same {key xs : List UInt8} {b : Int} (ht : IsTree key xs) (hb : 0 ≤ b ∧ b < 16) : climbT key xs b (elt xs (16 + b.toNat)) = xs := by
  have H : ∀ k, k ≤ 5 → cl key xs (elt xs (16 + b.toNat)) b k = xs := by
    intro k
    induction k with
    | zero => intro _; rfl
    | succ k ih =>
      intro hk
      rw [cl, ih (by omega)]
      have hp := pathAt_le hb k
      have hp0 := pathAt_pos hb (j := k) (by omega)
      by_cases hk0 : k = 0
      · subst hk0
        rw [if_pos rfl, ← pathAt_zero, putS_self ht.1 (by omega)]
      · rw [if_neg hk0]
        obtain ⟨m, rfl⟩ : ∃ m, k = m + 1 := ⟨k - 1, by omega⟩
        have h16 : pathAt b (m + 1) < 16 := by have := pathAt_le hb m; rw [pathAt_succ]; omega
        rw [← ht.2 _ (by omega) h16, putS_self ht.1 (by omega)]
  exact H 5 (Nat.le_refl _)

/-- What a climb with any leaf leaves: a tree; the root's neighbour and the other leaves as they were. -/
theorem climb_tree {key xs leaf : List UInt8} {b : Int} (ht : IsTree key xs) (hb : 0 ≤ b ∧ b < 16) (hl : leaf.length = 32) :
    IsTree key (climbT key xs b leaf) ∧ elt (climbT key xs b leaf) 0 = elt xs 0 ∧ ∀ j, j < 16 → elt (climbT key xs b leaf) (16 + j) = if j = b.toNat then leaf else elt xs (16 + j) := by
  have hlen := fun k => len_cl (key := key) ht.1 hl hb k
  have hnl : ∀ k : Nat, ∀ s : List UInt8, (if k = 0 then leaf else s) = leaf ∨ k ≠ 0 := fun k s => by by_cases h : k = 0 <;> simp [h]
  have hs : ∀ k, (if k = 0 then leaf else joinOf key (pathAt b k : Int) (elt (cl key xs leaf b k) (2 * pathAt b k)) (elt (cl key xs leaf b k) (2 * pathAt b k + 1))).length = 32 := fun k => by
    split
    · exact hl
    · exact len_joinOf _ _ _ _
  have hstep : ∀ k, k < 5 → ∀ j, elt (cl key xs leaf b (k + 1)) j = if j = pathAt b k then (if k = 0 then leaf else joinOf key (pathAt b k : Int) (elt (cl key xs leaf b k) (2 * pathAt b k)) (elt (cl key xs leaf b k) (2 * pathAt b k + 1))) else elt (cl key xs leaf b k) j := fun k hk j => by
    rw [cl, elt_putS (hlen k) (by have := pathAt_le hb k; omega) (hs k)]
  have H : ∀ k, k < 5 → (∀ i, 1 ≤ i → i < 16 → i ≠ pathAt b (k + 1) → elt (cl key xs leaf b (k + 1)) i = joinOf key (i : Int) (elt (cl key xs leaf b (k + 1)) (2 * i)) (elt (cl key xs leaf b (k + 1)) (2 * i + 1))) ∧
      elt (cl key xs leaf b (k + 1)) 0 = elt xs 0 ∧ ∀ j, j < 16 → elt (cl key xs leaf b (k + 1)) (16 + j) = if j = b.toNat then leaf else elt xs (16 + j) := by
    intro k
    induction k with
    | zero =>
      intro _
      have h0 := pathAt_zero b
      have h1 := pathAt_succ b 0
      refine ⟨fun i hi1 hi2 hne => ?_, ?_, fun j hj => ?_⟩
      · rw [hstep 0 (by omega), hstep 0 (by omega), hstep 0 (by omega), if_neg (by omega), if_neg (by omega), if_neg (by omega)]
        exact ht.2 i hi1 hi2
      · rw [hstep 0 (by omega), if_neg (by omega)]; rfl
      · rw [hstep 0 (by omega), if_pos rfl]
        by_cases hj2 : j = b.toNat
        · rw [if_pos (by omega), if_pos hj2]
        · rw [if_neg (by omega), if_neg hj2]; rfl
    | succ k ih =>
      intro hk
      obtain ⟨i1, i2, i3⟩ := ih (by omega)
      have hp := pathAt_succ b (k + 1)
      have hpp := pathAt_pos hb (j := k + 1) hk
      have h16 : pathAt b (k + 1) < 16 := by have := pathAt_le hb k; rw [pathAt_succ]; omega
      refine ⟨fun i hi1 hi2 hne => ?_, ?_, fun j hj => ?_⟩
      · by_cases hi : i = pathAt b (k + 1)
        · rw [hstep (k + 1) hk i, hstep (k + 1) hk (2 * i), hstep (k + 1) hk (2 * i + 1), if_pos hi, if_neg (by omega), if_neg (by omega), if_neg (by omega), hi]
        · rw [hstep (k + 1) hk i, hstep (k + 1) hk (2 * i), hstep (k + 1) hk (2 * i + 1), if_neg hi, if_neg (by omega), if_neg (by omega)]
          exact i1 i hi1 hi2 hi
      · rw [hstep (k + 1) hk, if_neg (by omega)]; exact i2
      · rw [hstep (k + 1) hk, if_neg (by omega)]; exact i3 j hj
  obtain ⟨h1, h2, h3⟩ := H 4 (by omega)
  have h5 : pathAt b (4 + 1) = 0 := pathAt_five hb
  exact ⟨⟨hlen 5, fun i hi1 hi2 => h1 i hi1 hi2 (by omega)⟩, h2, h3⟩

/-- Leaves make the tree. -/
theorem tree_eq {key xs ys : List UInt8} (hx : IsTree key xs) (hy : IsTree key ys) (h0 : elt xs 0 = elt ys 0) (h : ∀ j, j < 16 → elt xs (16 + j) = elt ys (16 + j)) : xs = ys := by
  have H : ∀ d, d ≤ 31 → ∀ i, 1 ≤ i → i < 32 → 31 - d ≤ i → elt xs i = elt ys i := by
    intro d
    induction d with
    | zero =>
      intro _ i h1 h2 h3
      obtain rfl : i = 16 + 15 := by omega
      exact h 15 (by omega)
    | succ d ih =>
      intro hd i h1 h2 h3
      by_cases hi : 16 ≤ i
      · rw [show i = 16 + (i - 16) by omega]; exact h _ (by omega)
      · rw [hx.2 i h1 (by omega), hy.2 i h1 (by omega), ih (by omega) (2 * i) (by omega) (by omega) (by omega), ih (by omega) (2 * i + 1) (by omega) (by omega) (by omega)]
  refine elts_eq (n := 32) hx.1 hy.1 fun j hj => ?_
  by_cases hj0 : j = 0
  · subst hj0; exact h0
  · exact H 31 (Nat.le_refl _) j (by omega) hj (by omega)

/-- Behind an update stands the tree that is built of the other leaves. -/
theorem update_build {key leaves o : List UInt8} {b : Int} (hl : leaves.length = 16 * 32) (hb : 0 ≤ b ∧ b < 16) (ho : o.length = 32) :
    climbT key (buildT key leaves) b o = buildT key (putS leaves b.toNat o) := by
  obtain ⟨h1, h2, h3⟩ := climb_tree (key := key) (isTree_build hl) hb ho
  have hp : (putS leaves b.toNat o).length = 16 * 32 := len_putS hl (by omega) ho
  refine tree_eq h1 (isTree_build hp) (by rw [h2, build_zero hl, build_zero hp]) fun j hj => ?_
  rw [h3 j hj, build_leaf hp hj, build_leaf hl hj, elt_putS hl (by omega) ho]
/-- A tree that was built verifies each leaf. -/
theorem build_holds {key leaves : List UInt8} (hl : leaves.length = 16 * 32) {i : Nat} (hi : i < 16) : climbT key (buildT key leaves) (i : Int) (elt leaves i) = buildT key leaves := by
  have := climb_same (key := key) (b := (i : Int)) (isTree_build hl) ⟨by omega, by omega⟩
  rw [show ((i : Int)).toNat = i from rfl, build_leaf hl hi] at this
  exact this
end Go.Proofs.Ytdifepfplfkfoaa
