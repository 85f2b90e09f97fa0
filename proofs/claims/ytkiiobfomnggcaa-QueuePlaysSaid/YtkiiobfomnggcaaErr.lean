/-
  The verifier's helpers on errors: Num, Is.
-/
import Derived.Test.YtkiiobfomnggcaaNum
namespace Go.Proofs.Ytkiiobfomnggcaa
open Go.RowKit
set_option linter.unusedVariables false
set_option maxRecDepth 100000

theorem num_nil (w : World) : Calls Try.prog 35 #[.nilIface] w fun e w' => e = .returned (.int .i64 0) ∧ w = w' := by
  go_enter Try.func35, Try.ntmps35
  go_wp2
  go_ret
  exact ⟨rfl, rfl⟩
theorem assert_errno (k : Int) (w : World) : (Instr.typeAssert (.iface 59 (.int .i64 k)) 39 59 true).run Try.prog w = .ok (.tuple #[.int .i64 k, .bool true]) w := by kernel_rfl
theorem num_err (k : Int) (hk : (k == 0) = false) (w : World) : Calls Try.prog 35 #[.iface 59 (.int .i64 k)] w fun e w' => e = .returned (.int .i64 k) ∧ w = w' := by
  have hta := assert_errno k
  go_enter Try.func35, Try.ntmps35
  go_wp2
  go_ret
  exact ⟨rfl, rfl⟩
theorem is_nil (k : Int) (r : Bool) (hr : ((0 : Int) == k) = r) (w : World) : Calls Try.prog 21 #[.nilIface, .int .i64 k] w fun e w' => e = .returned (.bool r) ∧ w = w' := by
  have HR := Lib.hid hr
  clear hr
  go_enter Try.func21, Try.ntmps21
  go_wp2_with (go_at_call 35; refine (num_nil _).mono ?_; rintro e w' ⟨rfl, rfl⟩)
  go_ret
  exact ⟨by rw [← HR.out]; rfl, rfl⟩
theorem is_err (k j : Int) (hk : (k == 0) = false) (r : Bool) (hr : (k == j) = r) (w : World) :
    Calls Try.prog 21 #[.iface 59 (.int .i64 k), .int .i64 j] w fun e w' => e = .returned (.bool r) ∧ w = w' := by
  have HR := Lib.hid hr
  have HK := Lib.hid hk
  clear hr hk
  go_enter Try.func21, Try.ntmps21
  go_wp2_with (go_at_call 35; refine (num_err _ HK.out _).mono ?_; rintro e w' ⟨rfl, rfl⟩)
  go_ret
  exact ⟨by rw [← HR.out]; rfl, rfl⟩

end Go.Proofs.Ytkiiobfomnggcaa
