/-
  words: sized, Take; the library's Clone and Grow at bytes.
-/
import Derived.Test.YtjjpifppdjpcnaaNumB
import Derived.Test.YtjjpifppdjpcnaaClone
namespace Go.Proofs.Ytjjpifppdjpcnaa
open Go.RowKit
set_option linter.unusedVariables false
set_option maxRecDepth 100000

theorem sized_yes (s : Int) (h : sz s) (w : World) : Calls Try.prog 62 #[.int .i64 s] w fun e w' => e = .returned (.bool true) ∧ w = w' := by
  rcases h with rfl | rfl | rfl | rfl
  all_goals
    go_enter Try.func62, Try.ntmps62
    go_wp2
    go_ret
    exact ⟨rfl, rfl⟩
theorem sized_no (s : Int) (h : ¬ sz s) (w : World) : Calls Try.prog 62 #[.int .i64 s] w fun e w' => e = .returned (.bool false) ∧ w = w' := by
  have h1 : (s == 1) = false := by rw [beq_eq_false_iff_ne]; rintro rfl; exact h (.inl rfl)
  have h2 : (s == 2) = false := by rw [beq_eq_false_iff_ne]; rintro rfl; exact h (.inr (.inl rfl))
  have h4 : (s == 4) = false := by rw [beq_eq_false_iff_ne]; rintro rfl; exact h (.inr (.inr (.inl rfl)))
  have h8 : (s == 8) = false := by rw [beq_eq_false_iff_ne]; rintro rfl; exact h (.inr (.inr (.inr rfl)))
  clear h
  go_enter Try.func62, Try.ntmps62
  go_wp2
  go_ret
  exact ⟨rfl, rfl⟩
end Go.Proofs.Ytjjpifppdjpcnaa
