/-
  The reference's shr and rotr, by dividing.
-/
import Derived.Test.YtbphoilfiahnpaaShaT
namespace Go.Proofs.Ytbphoilfiahnpaa
open Go.RowKit
set_option linter.unusedVariables false
set_option maxRecDepth 100000

/-- A rotation right as a number. -/
def rotN (x i : Nat) : Nat := x / 2 ^ i + (x % 2 ^ i) * 2 ^ (32 - i)
theorem rotN_zero (x : Nat) : rotN x 0 = x := by simp [rotN, Nat.mod_one]
theorem rotN_succ (x i : Nat) (hi : i ≤ 31) : rotN x (i + 1) = rotN x i / 2 + rotN x i % 2 * 2147483648 := by
  have e1 : 2 ^ (32 - i) = 2 * 2 ^ (31 - i) := by rw [show 32 - i = (31 - i) + 1 from by omega, Nat.pow_succ]; omega
  have e2 : x % 2 ^ (i + 1) = x % 2 ^ i + 2 ^ i * (x / 2 ^ i % 2) := by rw [Nat.pow_succ, Nat.mod_mul]
  have e3 : 2 ^ i * 2 ^ (31 - i) = 2147483648 := by rw [← Nat.pow_add, show i + (31 - i) = 31 from by omega]
  have e4 : x / 2 ^ (i + 1) = x / 2 ^ i / 2 := by rw [Nat.pow_succ, Nat.div_div_eq_div_mul]
  unfold rotN
  rw [show 32 - (i + 1) = 31 - i from by omega, e1, e2, e4]
  generalize x / 2 ^ i = q at *
  generalize x % 2 ^ i = r at *
  rw [Nat.add_mul, Nat.mul_right_comm, e3]
  have e5 : r * (2 * 2 ^ (31 - i)) = 2 * (r * 2 ^ (31 - i)) := by rw [Nat.mul_left_comm]
  rw [e5]
  generalize r * 2 ^ (31 - i) = s
  omega
theorem rotR_nat (x : UInt32) (n : Nat) (h : n ≤ 31) : (rotR x n).toNat = rotN x.toNat n := by
  have hx := UInt32.toNat_lt x
  have hp : 2 ^ n * 2 ^ (32 - n) = 4294967296 := by rw [← Nat.pow_add, show n + (32 - n) = 32 from by omega]
  have h1 : x.toNat / 2 ^ n < 2 ^ (32 - n) := Nat.div_lt_of_lt_mul (by rw [hp]; exact hx)
  have h2 : x.toNat * 2 ^ (32 - n) % 4294967296 = 2 ^ (32 - n) * (x.toNat % 2 ^ n) := by
    rw [← hp, Nat.mul_comm x.toNat, Nat.mul_comm (2 ^ n), Nat.mul_mod_mul_left]
  have h3 : x.toNat / 2 ^ n ≤ x.toNat := Nat.div_le_self _ _
  rw [rotR, UInt32.toNat_or, UInt32.toNat_ofNat', UInt32.toNat_ofNat', Nat.mod_eq_of_lt (a := x.toNat / 2 ^ n) (by omega), h2, Nat.or_comm, ← Nat.two_pow_add_eq_or_of_lt h1, rotN]
  rw [Nat.mul_comm, Nat.add_comm]
theorem rotN_lt (x : UInt32) (n : Nat) (h : n ≤ 31) : rotN x.toNat n < 4294967296 := by rw [← rotR_nat x n h]; exact UInt32.toNat_lt _

theorem refrotr_c (x : UInt32) (n : Int) (h0 : 0 ≤ n) (h2 : n ≤ 31) (w : World) :
    Calls Try.prog 56 #[.int .u32 (x.toNat : Int), .int .i64 n] w fun e w' => e = .returned (.int .u32 ((rotR x n.toNat).toNat : Int)) ∧ w = w' := by
  obtain ⟨m, rfl⟩ : ∃ m : Nat, n = (m : Int) := ⟨n.toNat, by omega⟩
  rw [Int.toNat_natCast, rotR_nat x m (by omega)]
  go_enter Try.func56, Try.ntmps56
  go_wp2_with fail
  go_loop [0, 5] (fun v0 v5 => ∃ i y : Nat, i ≤ m ∧ y = rotN x.toNat i ∧ v0 = .int .u32 (y : Int) ∧ v5 = .int .i64 (i : Int)) (fun _ v5 => m - (intOf v5).toNat)
  case atStart => exact ⟨0, x.toNat, by omega, (rotN_zero _).symm, rfl, rfl⟩
  case round =>
    obtain ⟨i, y, hi, hy, rfl, rfl⟩ := hrel
    have hlt := rotN_lt x i (by omega)
    rw [← hy] at hlt
    have HY := Lib.hid hy
    clear hy
    by_cases him : i < m
    · go_wp2_with fail
      go_round
      case rel => exact ⟨i + 1, y / 2 + y % 2 * 2147483648, by omega, by rw [rotN_succ _ _ (by omega), HY.out], by congr 1, by go_num⟩
      case measure => simp [intOf]; omega
    · obtain rfl : i = m := by omega
      go_wp2_with fail
      go_ret
      exact ⟨by rw [← HY.out]; rfl, rfl⟩

theorem refshr_c (x : UInt32) (n : Int) (h0 : 0 ≤ n) (h2 : n ≤ 31) (w : World) :
    Calls Try.prog 57 #[.int .u32 (x.toNat : Int), .int .i64 n] w fun e w' => e = .returned (.int .u32 ((shR x n.toNat).toNat : Int)) ∧ w = w' := by
  obtain ⟨m, rfl⟩ : ∃ m : Nat, n = (m : Int) := ⟨n.toNat, by omega⟩
  have hx := UInt32.toNat_lt x
  have hsh : (shR x m).toNat = x.toNat / 2 ^ m := by
    have := Nat.div_le_self x.toNat (2 ^ m)
    rw [shR, UInt32.toNat_ofNat', Nat.mod_eq_of_lt (by omega)]
  rw [Int.toNat_natCast, hsh]
  clear hsh
  go_enter Try.func57, Try.ntmps57
  go_wp2_with fail
  go_loop [0, 5] (fun v0 v5 => ∃ i y : Nat, i ≤ m ∧ y < 4294967296 ∧ y = x.toNat / 2 ^ i ∧ v0 = .int .u32 (y : Int) ∧ v5 = .int .i64 (i : Int)) (fun _ v5 => m - (intOf v5).toNat)
  case atStart => exact ⟨0, x.toNat, by omega, hx, by simp, rfl, rfl⟩
  case round =>
    obtain ⟨i, y, hi, hyl, hy, rfl, rfl⟩ := hrel
    have HY := Lib.hid hy
    clear hy
    by_cases him : i < m
    · go_wp2_with fail
      go_round
      case rel => exact ⟨i + 1, y / 2, by omega, by omega, by rw [HY.out, Nat.div_div_eq_div_mul, Nat.pow_succ], rfl, by go_num⟩
      case measure => simp [intOf]; omega
    · obtain rfl : i = m := by omega
      go_wp2_with fail
      go_ret
      have e : ((x.toNat : Int) / 2 ^ i) = (y : Int) := by rw [HY.out, Int.natCast_ediv, Int.natCast_pow]; rfl
      exact ⟨by rw [e]; rfl, rfl⟩
end Go.Proofs.Ytbphoilfiahnpaa
