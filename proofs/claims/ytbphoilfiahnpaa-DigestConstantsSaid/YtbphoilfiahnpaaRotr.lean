/-
  Rotations and sums of 32 bits: the words of the walk as UInt32; digest.rotr.
-/
import Derived.Test.YtbphoilfiahnpaaArr
namespace Go.Proofs.Ytbphoilfiahnpaa
open Go.RowKit
set_option linter.unusedVariables false
set_option maxRecDepth 100000

/-- A rotation right. -/
def rotR (x : UInt32) (n : Nat) : UInt32 := UInt32.ofNat (x.toNat / 2 ^ n) ||| UInt32.ofNat (x.toNat * 2 ^ (32 - n))

theorem xor32 (x y : UInt32) : bits .xor .u32 (x.toNat : Int) (y.toNat : Int) = ((x ^^^ y).toNat : Int) := by
  rw [u32_xor_nat _ _ (UInt32.toNat_lt x) (UInt32.toNat_lt y), UInt32.toNat_xor]
theorem or32 (x y : UInt32) : bits .or .u32 (x.toNat : Int) (y.toNat : Int) = ((x ||| y).toNat : Int) := by
  rw [u32_or_nat _ _ (UInt32.toNat_lt x) (UInt32.toNat_lt y), UInt32.toNat_or]
theorem and32 (x y : UInt32) : bits .and .u32 (x.toNat : Int) (y.toNat : Int) = ((x &&& y).toNat : Int) := by
  rw [u32_and_nat _ _ (UInt32.toNat_lt x) (UInt32.toNat_lt y), UInt32.toNat_and]
theorem add32 (x y : UInt32) : IntKind.u32.wrap ((x.toNat : Int) + (y.toNat : Int)) = ((x + y).toNat : Int) := by
  rw [IntKind.wrap_u32', UInt32.toNat_add]; omega
theorem shr32 (x : UInt32) (n : Nat) : ((x.toNat : Int)) / (2 : Int) ^ n = ((UInt32.ofNat (x.toNat / 2 ^ n)).toNat : Int) := by
  have hx := UInt32.toNat_lt x
  have : x.toNat / 2 ^ n ≤ x.toNat := Nat.div_le_self _ _
  rw [UInt32.toNat_ofNat', Nat.mod_eq_of_lt (by omega)]
  rfl

theorem and31 : ∀ m : Fin 31, bits .and .u64 (IntKind.u64.wrap (-((m.val : Int) + 1))) 31 = ((31 - m.val : Nat) : Int) := by decide +kernel

theorem rotl_c (x : UInt32) (n : Int) (h1 : 1 ≤ n) (h2 : n ≤ 31) (w : World) :
    Calls Try.prog 69 #[.int .u32 (x.toNat : Int), .int .i64 (-n)] w fun e w' => e = .returned (.int .u32 ((rotR x n.toNat).toNat : Int)) ∧ w = w' := by
  have hx := UInt32.toNat_lt x
  obtain ⟨m, rfl⟩ : ∃ m : Nat, n = (m : Int) := ⟨n.toNat, by omega⟩
  obtain ⟨k, hk⟩ : ∃ k : Nat, k = 32 - m := ⟨_, rfl⟩
  have hk1 : 1 ≤ k := by omega
  have hk2 : k ≤ 31 := by omega
  have ha : bits .and .u64 (IntKind.u64.wrap (-(m : Int))) 31 = (k : Int) := by
    have := and31 ⟨m - 1, by omega⟩
    simp only at this
    rw [show ((m - 1 : Nat) : Int) + 1 = (m : Int) from by omega, show 31 - (m - 1) = k from by omega] at this
    exact this
  have hm : (32 : Int) - (k : Int) = (m : Int) := by omega
  have HK := Lib.hid hk
  clear hk
  go_enter Try.func69, Try.ntmps69
  go_wp2_with fail
  go_ret
  refine ⟨?_, rfl⟩
  have e1 : (x.toNat : Int) * (2 : Int) ^ k % 4294967296 = ((UInt32.ofNat (x.toNat * 2 ^ k)).toNat : Int) := by
    rw [UInt32.toNat_ofNat', Int.natCast_emod, Int.natCast_mul, Int.natCast_pow]
    rfl
  rw [shr32, e1, or32, rotR, Int.toNat_natCast, UInt32.or_comm, ← HK.out]
  rfl

theorem rotr_c (x : UInt32) (n : Int) (h1 : 1 ≤ n) (h2 : n ≤ 31) (w : World) :
    Calls Try.prog 55 #[.int .u32 (x.toNat : Int), .int .i64 n] w fun e w' => e = .returned (.int .u32 ((rotR x n.toNat).toNat : Int)) ∧ w = w' := by
  go_enter Try.func55, Try.ntmps55
  go_wp2_with (go_at_call 69; refine (rotl_c x n h1 h2 _).mono ?_; rintro e w' ⟨rfl, rfl⟩)
  go_ret
  exact ⟨rfl, rfl⟩
end Go.Proofs.Ytbphoilfiahnpaa
