/-
  Numbers as bytes, there and back (plain).
-/
import Derived.Test.YtjjpifppdjpcnaaNumB
namespace Go.Proofs.Ytjjpifppdjpcnaa
open Go.RowKit
set_option linter.unusedVariables false
set_option maxRecDepth 100000

theorem byteAt_succ (x : Int) (i : Nat) : byteAt x (i + 1) = byteAt (x / 256) i := by
  rw [byteAt, byteAt, show 8 * (i + 1) = 8 + 8 * i from by omega, Int.pow_add, ← Int.ediv_ediv_of_nonneg (by decide)]
  rfl
theorem numB_snoc (x : Int) (k : Nat) : numB x (k + 1) (k + 1) = numB (x / 256) k k ++ [byteAt x 0] := by
  rw [numB_succ, show k + 1 - 1 - k = 0 from by omega]
  congr 1
  simp only [numB]
  refine List.map_congr_left fun t ht => ?_
  have := List.mem_range.1 ht
  rw [show k + 1 - 1 - t = (k - 1 - t) + 1 from by omega, byteAt_succ]
theorem bigN_numB : ∀ (k : Nat) (x : Int), (bigN (numB x k k) : Int) = x % (2 : Int) ^ (8 * k)
  | 0, x => by simp [numB, bigN, Int.emod_one]
  | k + 1, x => by
    rw [numB_snoc, bigN_snoc]
    have ih := bigN_numB k (x / 256)
    have hb : ((byteAt x 0).toNat : Int) = x % 256 := by
      rw [byteAt, UInt8.toNat_ofNat']
      simp only [Nat.mul_zero, Int.pow_zero, Int.ediv_one]
      omega
    rw [Int.natCast_add, Int.natCast_mul, ih, hb, show 8 * (k + 1) = 8 + 8 * k from by omega, Int.pow_add]
    rw [show ((2 : Int) ^ 8) = 256 from rfl]
    have hp : (0 : Int) < (2 : Int) ^ (8 * k) := Int.pow_pos (by omega)
    generalize (2 : Int) ^ (8 * k) = p at *
    have h1 : x / 256 % p + p * (x / 256 / p) = x / 256 := Int.emod_add_mul_ediv (x / 256) p
    have h2 := Int.emod_nonneg (x / 256) (show p ≠ 0 by omega)
    have h3 := Int.emod_lt_of_pos (x / 256) hp
    have h4 : (x / (256 * p) = x / 256 / p ∧ x % (256 * p) = x / 256 % p * 256 + x % 256) := by
      rw [Int.ediv_emod_unique (by omega)]
      refine ⟨?_, by omega, ?_⟩
      · rw [Int.mul_assoc]
        generalize p * (x / 256 / p) = q at *
        omega
      · omega
    rw [h4.2]
    rfl

theorem byteAt_mod (x y : Int) (i : Nat) (hi : i < 8) (h : x % 18446744073709551616 = y % 18446744073709551616) : byteAt x i = byteAt y i := by
  have e : x / (2 : Int) ^ (8 * i) % 256 = y / (2 : Int) ^ (8 * i) % 256 := by
    match i, hi with
    | 0, _ => simp only [Nat.mul_zero, Int.pow_zero]; omega
    | 1, _ => simp only [Nat.mul_one, Int.reducePow]; omega
    | 2, _ => simp only [Nat.reduceMul, Int.reducePow]; omega
    | 3, _ => simp only [Nat.reduceMul, Int.reducePow]; omega
    | 4, _ => simp only [Nat.reduceMul, Int.reducePow]; omega
    | 5, _ => simp only [Nat.reduceMul, Int.reducePow]; omega
    | 6, _ => simp only [Nat.reduceMul, Int.reducePow]; omega
    | 7, _ => simp only [Nat.reduceMul, Int.reducePow]; omega
  rw [byteAt, byteAt, e]
theorem i64v_cong (n : Nat) : i64v n % 18446744073709551616 = (n : Int) % 18446744073709551616 := by
  rw [i64v, IntKind.wrap_i64]; omega

/-- What is put is taken. -/
theorem back_num {k : Nat} {x : Int} (h : okPut k x) (hw : (Lit.int .i64 x).wf = true) : i64v (bigN (numB x k k)) = x := by
  have hb := i64_bd hw
  have e := bigN_numB k x
  rcases h.2 with h8 | ⟨h0, h1⟩
  · obtain rfl : k = 8 := by omega
    simp only [Nat.reduceMul, Int.reducePow] at e
    rw [i64v, e, IntKind.wrap_i64]
    omega
  · rw [Int.toNat_natCast] at h1
    rw [Int.emod_eq_of_lt h0 h1] at e
    rw [i64v, e, IntKind.wrap_i64]
    omega

theorem bigN_lt : ∀ (bs : List UInt8), bigN bs < 2 ^ (8 * bs.length) := by
  intro bs
  rw [← List.reverse_reverse bs]
  induction bs.reverse with
  | nil => simp [bigN]
  | cons c l ih =>
    rw [List.reverse_cons, bigN_snoc, List.length_append, List.length_singleton, show 8 * (l.reverse.length + 1) = 8 * l.reverse.length + 8 from by omega, Nat.pow_add]
    have := UInt8.toNat_lt c
    simp only [Nat.reducePow]
    omega
theorem numB_bigN : ∀ (bs : List UInt8), numB (bigN bs : Int) bs.length bs.length = bs := by
  intro bs
  rw [← List.reverse_reverse bs]
  induction bs.reverse with
  | nil => simp [numB]
  | cons c l ih =>
    rw [List.reverse_cons, bigN_snoc, List.length_append, List.length_singleton, numB_snoc]
    have h1 : (((bigN l.reverse * 256 + c.toNat : Nat) : Int) / 256) = (bigN l.reverse : Int) := by have := UInt8.toNat_lt c; omega
    have h2 : byteAt ((bigN l.reverse * 256 + c.toNat : Nat) : Int) 0 = c := by
      rw [byteAt]
      simp only [Nat.mul_zero, Int.pow_zero, Int.ediv_one]
      have := UInt8.toNat_lt c
      apply UInt8.toNat_inj.1
      rw [UInt8.toNat_ofNat']
      omega
    rw [h1, ih, h2]
/-- What is taken has no other form. -/
theorem back_bytes (bs : List UInt8) (h : bs.length ≤ 8) : numB (i64v (bigN bs)) bs.length bs.length = bs := by
  have e : numB (i64v (bigN bs)) bs.length bs.length = numB (bigN bs : Int) bs.length bs.length := by
    simp only [numB]
    refine List.map_congr_left fun t ht => ?_
    have := List.mem_range.1 ht
    exact byteAt_mod _ _ _ (by omega) (i64v_cong _)
  rw [e, numB_bigN]
theorem back_ok {k : Nat} (hk : sz k) (bs : List UInt8) (h : bs.length = k) : okPut k (i64v (bigN bs)) := by
  refine ⟨hk, ?_⟩
  have hlt := bigN_lt bs
  rw [h] at hlt
  rcases hk with e | e | e | e
  · right
    obtain rfl : k = 1 := by omega
    simp only [Nat.reduceMul, Nat.reducePow] at hlt
    rw [i64v, IntKind.wrap_i64]
    simp
    omega
  · right
    obtain rfl : k = 2 := by omega
    simp only [Nat.reduceMul, Nat.reducePow] at hlt
    rw [i64v, IntKind.wrap_i64]
    simp
    omega
  · right
    obtain rfl : k = 4 := by omega
    simp only [Nat.reduceMul, Nat.reducePow] at hlt
    rw [i64v, IntKind.wrap_i64]
    simp
    omega
  · left; omega
theorem i64v_wf (n : Nat) : (Lit.int .i64 (i64v n)).wf = true := by
  rw [i64v, IntKind.wrap_i64]
  exact WalkArith.wf_i64 (by omega)

end Go.Proofs.Ytjjpifppdjpcnaa
