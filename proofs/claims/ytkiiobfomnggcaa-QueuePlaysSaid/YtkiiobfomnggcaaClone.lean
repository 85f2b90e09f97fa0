/-
  The library's Clone at bytes; Clip.
-/
import Derived.Test.YtkiiobfomnggcaaBase
namespace Go.Proofs.Ytkiiobfomnggcaa
open Go.RowKit
set_option linter.unusedVariables false
set_option maxRecDepth 100000

/-- Clone: nil of nil, else a row of its own. -/
theorem clone_c {w : World} {B : Nat} {A : Option Addr} {n c : Nat} {bs : List UInt8} (ha : SlB w B A n c bs) (hB : B ≤ w.heap.size) (hn : n ≤ 140737488355328) :
    Calls Try.prog 29 #[.slice A n c] w fun e w' => ∃ A' c', e = .returned (.slice A' n c') ∧ OwB w' w.heap.size A' n c' bs ∧ Below w.heap.size w w' ∧ (A' = none ↔ A = none) := by
  cases A with
  | none =>
    have hc : c = 0 := by
      rcases Nat.eq_zero_or_pos c with h | h
      · exact h
      · obtain ⟨_, _, h1, _⟩ := ha.at_ h; cases h1
    subst hc
    obtain rfl : n = 0 := by have := ha.le; omega
    obtain rfl : bs = [] := List.eq_nil_of_length_eq_zero ha.len
    have hq : ∀ W, (binOp .eql 22 (.slice none 0 0) (.slice none 0 0)).run Try.prog W = .ok (.bool true) W := fun W => by kernel_rfl
    clear ha
    go_enter Try.func29, Try.ntmps29
    go_wp2_with fail
    go_ret
    exact ⟨none, 0, rfl, OwB.nil _ _ _, Below.refl _ _, by simp⟩
  | some ad =>
    have hq := fun W => Lib.run_eql_slice_nil (P := Try.prog) W
    have hs1 := ha.alloc hB (.cells #[] 5)
    have h0 : OwB (w.alloc (.cells #[] 5)) w.heap.size (some ⟨w.heap.size, 0, none⟩) 0 0 [] := OwB.nil _ _ _
    have hb0 : Below w.heap.size w (w.alloc (.cells #[] 5)) := (Below.refl _ _).alloc (Nat.le_refl _) _
    have HL := Lib.hid ha.len
    clear ha
    go_enter Try.func29, Try.ntmps29
    go_wp2_with (at_builtin; refine wpList_append8 rfl (.tmp 5) (.tmp 6) rfl rfl h0 rfl hs1 (by omega) (by simp) n (by omega) ?_; intro A1 c1 w1 h1 q1; have hb1 := q1.below h0 hb0 (Nat.le_refl _) (by simp))
    go_ret
    refine ⟨A1, c1, rfl, h1, hb1, ?_⟩
    rcases q1 with ⟨_, rfl, _⟩ | ⟨_, rfl, _⟩ <;> simp
end Go.Proofs.Ytkiiobfomnggcaa
