/-
  WordsOrder: numbers of one size that are not below 0 are ordered as their bytes.
-/
import Derived.Test.YtjceikdkgghohaaPut
namespace Go.Proofs.Ytjceikdkgghohaa.wordsOrder
open Go.RowKit
set_option linter.unusedVariables false
set_option maxRecDepth 100000

theorem numB_cons (x : Int) (k : Nat) : numB x (k + 1) (k + 1) = byteAt x k :: numB x k k := by
  simp only [numB, List.range_succ_eq_map, List.map_cons, List.map_map]
  refine congr (congrArg List.cons (by congr 1)) (List.map_congr_left fun t ht => ?_)
  simp only [Function.comp]
  congr 1
  omega

/-- What a number's lowest k bytes are worth. -/
theorem mod_succ (a : Nat) (k : Nat) : a % 2 ^ (8 * (k + 1)) = a / 2 ^ (8 * k) % 256 * 2 ^ (8 * k) + a % 2 ^ (8 * k) := by
  rw [show 8 * (k + 1) = 8 * k + 8 from by omega, Nat.pow_add, Nat.mod_mul, Nat.mul_comm (a / _ % _)]
  simp only [Nat.reducePow]
  omega
theorem byteAt_nat (a k : Nat) : (byteAt (a : Int) k).toNat = a / 2 ^ (8 * k) % 256 := by
  rw [byteAt, UInt8.toNat_ofNat']
  have : ((a : Int) / (2 : Int) ^ (8 * k) % 256).toNat = a / 2 ^ (8 * k) % 256 := by
    rw [show ((2 : Int) ^ (8 * k)) = ((2 ^ (8 * k) : Nat) : Int) from by simp, ← Int.natCast_ediv, show (256 : Int) = ((256 : Nat) : Int) from rfl, ← Int.natCast_emod, Int.toNat_natCast]
  rw [this]
  omega
theorem less_numB (a b : Nat) : ∀ k, Op.bytesLess (numB (a : Int) k k) (numB (b : Int) k k) = decide (a % 2 ^ (8 * k) < b % 2 ^ (8 * k))
  | 0 => by simp [numB, Op.bytesLess, Nat.mod_one]
  | k + 1 => by
    rw [numB_cons, numB_cons, Op.bytesLess, less_numB a b k, mod_succ, mod_succ b, Bool.eq_iff_iff]
    have ha := byteAt_nat a k
    have hb := byteAt_nat b k
    have h1 : a % 2 ^ (8 * k) < 2 ^ (8 * k) := Nat.mod_lt _ (Nat.two_pow_pos _)
    have h2 : b % 2 ^ (8 * k) < 2 ^ (8 * k) := Nat.mod_lt _ (Nat.two_pow_pos _)
    simp only [Bool.or_eq_true, Bool.and_eq_true, decide_eq_true_eq, beq_iff_eq, UInt8.lt_iff_toNat_lt, ← UInt8.toNat_inj, ha, hb]
    generalize a / 2 ^ (8 * k) % 256 = x at *
    generalize b / 2 ^ (8 * k) % 256 = y at *
    generalize a % 2 ^ (8 * k) = u at *
    generalize b % 2 ^ (8 * k) = v at *
    generalize 2 ^ (8 * k) = p at *
    constructor
    · rintro (h | ⟨h, h'⟩)
      · have : (x + 1) * p ≤ y * p := Nat.mul_le_mul_right _ h
        rw [Nat.add_mul] at this
        omega
      · subst h; omega
    · intro h
      rcases Nat.lt_trichotomy x y with hxy | hxy | hxy
      · exact .inl hxy
      · subst hxy; exact .inr ⟨rfl, by omega⟩
      · have : (y + 1) * p ≤ x * p := Nat.mul_le_mul_right _ hxy
        rw [Nat.add_mul] at this
        omega

theorem small {k : Nat} {x : Int} (h : okPut k x) (hw : (Lit.int .i64 x).wf = true) (h0 : 0 ≤ x) : x.toNat % 2 ^ (8 * k) = x.toNat := by
  have hb := i64_bd hw
  apply Nat.mod_eq_of_lt
  rcases h.2 with h8 | ⟨_, h1⟩
  · obtain rfl : k = 8 := by omega
    simp only [Nat.reduceMul, Nat.reducePow]
    omega
  · rw [Int.toNat_natCast] at h1
    have e : ((2 : Int) ^ (8 * k)) = ((2 ^ (8 * k) : Nat) : Int) := by simp
    rw [e] at h1
    omega
theorem order_eq {k : Nat} {a b : Int} (ha : okPut k a) (hb : okPut k b) (wa : (Lit.int .i64 a).wf = true) (wb : (Lit.int .i64 b).wf = true) (h0 : 0 ≤ a) (h1 : 0 ≤ b) :
    Op.bytesLess (numB a k k) (numB b k k) = decide (a < b) := by
  have e1 := small ha wa h0
  have e2 := small hb wb h1
  obtain ⟨x, rfl⟩ := Int.eq_ofNat_of_zero_le h0
  obtain ⟨y, rfl⟩ := Int.eq_ofNat_of_zero_le h1
  rw [Int.toNat_natCast] at e1 e2
  rw [less_numB, e1, e2, Bool.eq_iff_iff]
  simp
theorem ok300 : okPut (2 : Nat) 300 := by refine ⟨by simp [sz], .inr ⟨by omega, by decide⟩⟩
theorem wf300 : (Lit.int .i64 300).wf = true := by decide

set_option maxHeartbeats 1000000 in
theorem walk (a0 : Int) (a1 : Int) (a2 : Int) (w : World) (w0 : (Lit.int .i64 a0).wf = true) (w1 : (Lit.int .i64 a1).wf = true) (w2 : (Lit.int .i64 a2).wf = true) :
    Calls Try.prog 7 #[.int .i64 a0, .int .i64 a1, .int .i64 a2] w fun e w' => e = .returned (.bool true) ∧ Below w.heap.size w w' := by
  have HW1 := Lib.hid w1
  have HW2 := Lib.hid w2
  clear w0 w1 w2
  by_cases ha : okPut a0 a1
  · obtain ⟨k, rfl⟩ : ∃ k : Nat, a0 = (k : Int) := ⟨a0.toNat, by have := ha.1; unfold sz at this; omega⟩
    have HA := Lib.hid ha
    have hk8 : k ≤ 8 := by have := ha.1; unfold sz at this; omega
    clear ha
    by_cases hb : okPut k a2
    · have HB := Lib.hid hb
      clear hb
      go_enter Try.func7, Try.ntmps7
      go_wp2_with fail
      refine (put_good (SlB.nil w w.heap.size none) (Nat.le_refl _) (by omega) 300 wf300 ok300).mono ?_
      rintro e w1 ⟨A1, c1, rfl, _, hb1⟩
      go_wp2_with fail
      refine (put_good (SlB.nil w1 w1.heap.size none) (Nat.le_refl _) (by omega) a1 HW1.out HA.out).mono ?_
      rintro e w2 ⟨A2, c2, rfl, ho2, hb2⟩
      have hz1 := hb1.size
      have hb2w := hb1.trans (hb2.mono hz1)
      have hz2 := hb2w.size
      have HO2 := Lib.hid ho2
      clear ho2
      go_wp2_with fail
      refine (put_good (SlB.nil w2 w2.heap.size none) (Nat.le_refl _) (by omega) a2 HW2.out HB.out).mono ?_
      rintro e w3 ⟨A3, c3, rfl, ho3, hb3⟩
      have hb3w := hb2w.trans (hb3.mono hz2)
      have HO3 := Lib.hid ho3
      clear ho3
      by_cases h1 : a1 < 0
      · go_wp2_with fail
        go_ret
        exact ⟨rfl, hb3w⟩
      by_cases h2 : a2 < 0
      · go_wp2_with fail
        go_ret
        exact ⟨rfl, hb3w⟩
      have e2 := (HO2.out.below hb3).sl.str
      have e3 := HO3.out.sl.str
      simp only [List.nil_append, Nat.zero_add] at e2 e3
      have hl := order_eq HA.out HB.out HW1.out HW2.out (by omega) (by omega)
      go_wp2_with fail
      go_ret
      refine ⟨?_, hb3w⟩
      rfl
    · go_enter Try.func7, Try.ntmps7
      go_wp2_with fail
      refine (put_good (SlB.nil w w.heap.size none) (Nat.le_refl _) (by omega) 300 wf300 ok300).mono ?_
      rintro e w1 ⟨A1, c1, rfl, _, hb1⟩
      go_wp2_with fail
      refine (put_good (SlB.nil w1 w1.heap.size none) (Nat.le_refl _) (by omega) a1 HW1.out HA.out).mono ?_
      rintro e w2 ⟨A2, c2, rfl, ho2, hb2⟩
      have hb2w := hb1.trans (hb2.mono hb1.size)
      go_wp2_with fail
      refine (put_bad a2 hb).mono ?_
      rintro e w3 ⟨rfl, rfl⟩
      clear hb
      go_wp2_with fail
      go_ret
      exact ⟨rfl, hb2w⟩
  · by_cases hb : okPut a0 a2
    · obtain ⟨k, rfl⟩ : ∃ k : Nat, a0 = (k : Int) := ⟨a0.toNat, by have := hb.1; unfold sz at this; omega⟩
      go_enter Try.func7, Try.ntmps7
      go_wp2_with fail
      refine (put_good (SlB.nil w w.heap.size none) (Nat.le_refl _) (by omega) 300 wf300 ok300).mono ?_
      rintro e w1 ⟨A1, c1, rfl, _, hb1⟩
      go_wp2_with fail
      refine (put_bad a1 ha).mono ?_
      rintro e w2 ⟨rfl, rfl⟩
      go_wp2_with fail
      refine (put_good (SlB.nil w1 w1.heap.size none) (Nat.le_refl _) (by omega) a2 HW2.out hb).mono ?_
      rintro e w3 ⟨A3, c3, rfl, ho3, hb3⟩
      clear ha hb
      go_wp2_with fail
      go_ret
      exact ⟨rfl, hb1.trans (hb3.mono hb1.size)⟩
    · go_enter Try.func7, Try.ntmps7
      go_wp2_with fail
      refine (put_good (SlB.nil w w.heap.size none) (Nat.le_refl _) (by omega) 300 wf300 ok300).mono ?_
      rintro e w1 ⟨A1, c1, rfl, _, hb1⟩
      go_wp2_with fail
      refine (put_bad a1 ha).mono ?_
      rintro e w2 ⟨rfl, rfl⟩
      go_wp2_with fail
      refine (put_bad a2 hb).mono ?_
      rintro e w3 ⟨rfl, rfl⟩
      clear ha hb
      go_wp2_with fail
      go_ret
      exact ⟨rfl, hb1⟩
end Go.Proofs.Ytjceikdkgghohaa.wordsOrder
