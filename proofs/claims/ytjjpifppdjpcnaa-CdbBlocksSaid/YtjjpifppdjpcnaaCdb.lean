/-
  cdb: when a command's parts fit its kind.
-/
import Derived.Test.YtjjpifppdjpcnaaPduLaw
namespace Go.Proofs.Ytjjpifppdjpcnaa
open Go.RowKit
set_option linter.unusedVariables false
set_option linter.unusedSimpArgs false
set_option maxRecDepth 100000

/-- A command's parts fit its kind (as the program asks). -/
def soundP (kind many : Int) (m : Nat) (op who key new ty : Int) (st : Bool) : Prop :=
  1 ≤ kind ∧ kind ≤ 7 ∧ (kind = 2 → many ≤ 16 ∧ (m : Int) = wrap64 (128 * many)) ∧ (kind ≠ 2 → m = 0) ∧ (kind ≠ 6 → op = 0 ∧ who = 0 ∧ key = 0 ∧ new = 0 ∧ ty = 0 ∧ st = false) ∧ (kind = 6 → who = 0 ∧ 0 ≤ key ∧ 0 ≤ new)

set_option maxHeartbeats 1000000 in
theorem sound_yes {w : World} {A : Option Addr} {m c : Nat} (kind unit block many op who key new ty : Int) (st : Bool) (hm : m ≤ 9223372036854775807) (h : soundP kind many m op who key new ty st) :
    Calls Try.prog 53 #[.agg #[.int .i64 kind, .int .i64 unit, .int .i64 block, .int .i64 many, .slice A m c, .int .i64 op, .int .i64 who, .int .i64 key, .int .i64 new, .int .i64 ty, .bool st]] w fun e w' => e = .returned (.bool true) ∧ Below w.heap.size w w' := by
  obtain ⟨h1, h7, a2, a0, az, a6⟩ := h
  by_cases k2 : kind = 2
  · subst k2
    obtain ⟨hm16, hmw⟩ := a2 rfl
    obtain ⟨rfl, rfl, rfl, rfl, rfl, rfl⟩ := az (by decide)
    have hmw' : ((m : Int) != wrap64 (128 * many)) = false := by rw [hmw]; simp
    clear a2 a0 az a6 hmw
    go_enter Try.func53, Try.ntmps53
    go_wp2_with fail
    go_ret
    exact ⟨rfl, below_alloc _ _⟩
  · obtain rfl := a0 k2
    by_cases k6 : kind = 6
    · subst k6
      obtain ⟨rfl, hk, hn⟩ := a6 rfl
      clear a2 a0 az a6 k2
      go_enter Try.func53, Try.ntmps53
      go_wp2_with fail
      go_ret
      exact ⟨rfl, below_alloc _ _⟩
    · obtain ⟨rfl, rfl, rfl, rfl, rfl, rfl⟩ := az k6
      have e2 : (kind == 2) = false := by simpa using k2
      have e2' : (kind != 2) = true := by simpa using k2
      have e6 : (kind != 6) = true := by simpa using k6
      clear a2 a0 az a6 k2 k6
      go_enter Try.func53, Try.ntmps53
      go_wp2_with fail
      go_ret
      exact ⟨rfl, below_alloc _ _⟩
set_option maxHeartbeats 4000000 in
theorem sound_no {w : World} {A : Option Addr} {m c : Nat} (kind unit block many op who key new ty : Int) (st : Bool) (hm : m ≤ 9223372036854775807) (h : ¬ soundP kind many m op who key new ty st) :
    Calls Try.prog 53 #[.agg #[.int .i64 kind, .int .i64 unit, .int .i64 block, .int .i64 many, .slice A m c, .int .i64 op, .int .i64 who, .int .i64 key, .int .i64 new, .int .i64 ty, .bool st]] w fun e w' => e = .returned (.bool false) ∧ Below w.heap.size w w' := by
  cases st
  all_goals
    have H := Lib.hid h
    clear h
    go_enter Try.func53, Try.ntmps53
    go_wp2_with fail
    all_goals first
      | (go_ret; exact ⟨rfl, below_alloc _ _⟩)
      | (exfalso
         have H2 := H.out
         clear H
         simp only [soundP, bne_iff_ne, bne_eq_false_iff_eq, ne_eq, reduceCtorEq, and_false, and_true, Bool.true_eq_false, Bool.false_eq_true] at *
         omega)
      | (go_ret
         refine ⟨?_, below_alloc _ _⟩
         have hv : ¬ (0 ≤ new) := fun hn => by
           apply H.out
           simp only [soundP, bne_iff_ne, bne_eq_false_iff_eq, ne_eq, reduceCtorEq, and_false, and_true, Bool.true_eq_false, Bool.false_eq_true] at *
           omega
         simp [hv])
end Go.Proofs.Ytjjpifppdjpcnaa
