/-
  Numbers of 64 bits: what shifts and bitwise operations on int and uint64 do, as numbers.
-/
import Derived.Test.YtbphoilfiahnpaaByt
namespace Go.Proofs.Ytbphoilfiahnpaa
open Go.RowKit
set_option linter.unusedVariables false

/-- The number that bytes are, the highest first. -/
def bigN (bs : List UInt8) : Nat := bs.foldl (fun n b => n * 256 + b.toNat) 0
theorem bigN_snoc (bs : List UInt8) (b : UInt8) : bigN (bs ++ [b]) = bigN bs * 256 + b.toNat := by simp [bigN]
theorem take_snoc' (bs : List UInt8) (j : Nat) (x : UInt8) (h : bs[j]? = some x) : bs.take (j + 1) = bs.take j ++ [x] := by
  obtain ⟨hj, e⟩ := List.getElem?_eq_some_iff.1 h
  rw [List.take_succ_eq_append_getElem hj, e]
/-- A number of 64 bits as a signed one. -/
def i64v (n : Nat) : Int := IntKind.i64.wrap (n : Int)
theorem i64v_zero : i64v 0 = 0 := rfl

theorem ofInt_wrap64 (z : Int) : BitVec.ofInt 64 (IntKind.i64.wrap z) = BitVec.ofInt 64 z := by
  apply BitVec.eq_of_toNat_eq
  rw [BitVec.toNat_ofInt, BitVec.toNat_ofInt, IntKind.wrap_i64]
  congr 1
  omega
theorem ofInt_nat64 (n : Nat) : BitVec.ofInt 64 (n : Int) = BitVec.ofNat 64 n := by
  apply BitVec.eq_of_toNat_eq
  rw [BitVec.toNat_ofInt, BitVec.toNat_ofNat]
  omega
theorem ofInt_i64v (n : Nat) : BitVec.ofInt 64 (i64v n) = BitVec.ofNat 64 n := by rw [i64v, ofInt_wrap64, ofInt_nat64]
theorem i64v_mod (n : Nat) : i64v (n % 18446744073709551616) = i64v n := by
  rw [i64v, i64v, IntKind.wrap_i64, IntKind.wrap_i64]; omega
theorem i64v_mul (n m : Nat) : IntKind.i64.wrap (i64v n * (m : Int)) = i64v (n * m) := by
  rw [i64v, i64v, IntKind.wrap_i64, IntKind.wrap_i64, IntKind.wrap_i64]
  have h : ((n : Int) + 9223372036854775808) % 18446744073709551616 = (n : Int) + 9223372036854775808 - 18446744073709551616 * (((n : Int) + 9223372036854775808) / 18446744073709551616) := by omega
  rw [h]
  generalize ((n : Int) + 9223372036854775808) / 18446744073709551616 = q
  have e : ((n : Int) + 9223372036854775808 - 18446744073709551616 * q - 9223372036854775808) * (m : Int) = (n : Int) * (m : Int) - 18446744073709551616 * (q * (m : Int)) := by
    rw [show (n : Int) + 9223372036854775808 - 18446744073709551616 * q - 9223372036854775808 = (n : Int) - 18446744073709551616 * q from by omega, Int.sub_mul, Int.mul_assoc]
  rw [e, ← Int.natCast_mul]
  generalize q * (m : Int) = r
  omega
theorem i64_or_byte (n : Nat) (x : Nat) (hx : x < 256) : bits .or .i64 (wrap64 (i64v n * 256)) (x : Int) = i64v (n * 256 + x) := by
  have h1 : wrap64 (i64v n * 256) = i64v (n * 256) := by rw [← i64v_mul, IntKind.wrap_i64]; unfold wrap64; rfl
  show IntKind.i64.wrap ((BitVec.ofInt 64 (wrap64 (i64v n * 256)) ||| BitVec.ofInt 64 (x : Int)).toNat : Int) = _
  rw [h1, ofInt_i64v, ofInt_nat64, BitVec.toNat_or, BitVec.toNat_ofNat, BitVec.toNat_ofNat, Nat.mod_eq_of_lt (a := x) (by omega),
    nat_join 8 _ _ (by simp only [Nat.reducePow]; omega) (by omega)]
  show i64v _ = _
  rw [← i64v_mod (n * 256 + x), ← i64v_mod]
  congr 1
  simp only [Nat.reducePow]
  omega

/-- A number of 64 bits as an unsigned one. -/
def u64v (n : Nat) : Int := IntKind.u64.wrap (n : Int)
theorem u64v_zero : u64v 0 = 0 := rfl
theorem wrap_u64 (n : Int) : IntKind.u64.wrap n = n % 18446744073709551616 := by simp [IntKind.wrap, IntKind.bits, IntKind.signed]
theorem u64v_step (n x : Nat) : IntKind.u64.wrap (IntKind.u64.wrap (u64v n * 256) + (x : Int)) = u64v (n * 256 + x) := by
  simp only [u64v, wrap_u64]; omega
theorem i64_of_u64v (n : Nat) : IntKind.i64.wrap (u64v n) = i64v n := by
  simp only [u64v, i64v, wrap_u64, IntKind.wrap_i64]; omega
end Go.Proofs.Ytbphoilfiahnpaa
