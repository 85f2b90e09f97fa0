/-
  The reference's Number.
-/
import Derived.Test.YtjjpifppdjpcnaaNumB
namespace Go.Proofs.Ytjjpifppdjpcnaa
open Go.RowKit
set_option linter.unusedVariables false
set_option maxRecDepth 100000

theorem numB_cons (x : Int) (k : Nat) : numB x (k + 1) (k + 1) = byteAt x k :: numB x k k := by
  simp only [numB, List.range_succ_eq_map, List.map_cons, List.map_map]
  refine congr (congrArg List.cons (by congr 1)) (List.map_congr_left fun t ht => ?_)
  simp only [Function.comp]
  congr 1
  omega
/-- A number of 64 bits as a whole number, and what is left of it behind i bytes. -/
def ux (x : Int) (i : Nat) : Nat := (x % 18446744073709551616).toNat / 2 ^ (8 * i)
theorem ux_zero (x : Int) : IntKind.u64.wrap x = (ux x 0 : Int) := by
  rw [wrap_u64, ux]
  simp only [Nat.mul_zero, Nat.pow_zero, Nat.div_one]
  omega
theorem ux_succ (x : Int) (i : Nat) : (ux x i : Int) / 256 = (ux x (i + 1) : Int) := by
  rw [ux, ux, show 8 * (i + 1) = 8 * i + 8 from by omega, Nat.pow_add, ← Nat.div_div_eq_div_mul]
  simp only [Nat.reducePow]
  omega
theorem ux_byte (x : Int) (i : Nat) (hi : i < 8) : IntKind.u8.wrap ((ux x i : Int) % 256) = ((byteAt x i).toNat : Int) := by
  rw [IntKind.wrap_u8', byteAt, UInt8.toNat_ofNat', ux]
  have h : ((x % 18446744073709551616).toNat / 2 ^ (8 * i) : Nat) % 256 = (x / (2 : Int) ^ (8 * i) % 256).toNat := by
    have hx : ((x % 18446744073709551616).toNat : Int) = x % 18446744073709551616 := by omega
    have e : (((x % 18446744073709551616).toNat / 2 ^ (8 * i) % 256 : Nat) : Int) = x / (2 : Int) ^ (8 * i) % 256 := by
      rw [Int.natCast_emod, Int.natCast_ediv, hx]
      simp only [Int.natCast_pow]
      match i, hi with
      | 0, _ => simp only [Nat.mul_zero, Int.pow_zero]; omega
      | 1, _ => simp only [Nat.mul_one, Int.reducePow]; omega
      | 2, _ => simp only [Nat.reduceMul, Int.reducePow]; omega
      | 3, _ => simp only [Nat.reduceMul, Int.reducePow]; omega
      | 4, _ => simp only [Nat.reduceMul, Int.reducePow]; omega
      | 5, _ => simp only [Nat.reduceMul, Int.reducePow]; omega
      | 6, _ => simp only [Nat.reduceMul, Int.reducePow]; omega
      | 7, _ => simp only [Nat.reduceMul, Int.reducePow]; omega
    omega
  omega

theorem ux_wrap (x : Int) (i : Nat) : IntKind.u64.wrap (ux x i : Int) = (ux x i : Int) := by
  have h : ux x i ≤ (x % 18446744073709551616).toNat := Nat.div_le_self _ _
  rw [wrap_u64]
  omega
theorem number_ok {w : World} {k : Nat} (x : Int) (hx : (Lit.int .i64 x).wf = true) (h : okPut k x) :
    Calls Try.prog 42 #[.int .i64 k, .int .i64 x] w fun e w' => ∃ A' c', e = .returned (.tuple #[.slice A' k c', .int .i64 0]) ∧ OwB w' w.heap.size A' k c' (numB x k k) ∧ Below w.heap.size w w' := by
  have hxb := i64_bd hx
  have hcase : ((k : Int) ≤ 1 ∧ 1 ≤ (k : Int) ∧ 0 ≤ x ∧ x ≤ 255) ∨ ((k : Int) ≤ 2 ∧ 2 ≤ (k : Int) ∧ 0 ≤ x ∧ x ≤ 65535) ∨ ((k : Int) ≤ 4 ∧ 4 ≤ (k : Int) ∧ 0 ≤ x ∧ x ≤ 4294967295) ∨ ((k : Int) ≤ 8 ∧ 8 ≤ (k : Int) ∧ x ≤ 9223372036854775807 ∧ -9223372036854775808 ≤ x) := by
    obtain ⟨hs, hr⟩ := h
    rcases hs with e | e | e | e
    · left
      obtain rfl : k = 1 := by omega
      have := hr.resolve_left (by omega)
      simp at this
      omega
    · right; left
      obtain rfl : k = 2 := by omega
      have := hr.resolve_left (by omega)
      simp at this
      omega
    · right; right; left
      obtain rfl : k = 4 := by omega
      have := hr.resolve_left (by omega)
      simp at this
      omega
    · right; right; right
      omega
  have hux := ux_zero x
  clear h hx
  rcases hcase with ⟨h1, h2, h3, h4⟩ | ⟨h1, h2, h3, h4⟩ | ⟨h1, h2, h3, h4⟩ | ⟨h1, h2, h3, h4⟩
  rotate_left 3
  have t1 : ((k : Int) != 1) = true := by rw [bne_iff_ne]; omega
  have t2 : ((k : Int) != 2) = true := by rw [bne_iff_ne]; omega
  have t4 : ((k : Int) != 4) = true := by rw [bne_iff_ne]; omega
  have t8 : ((k : Int) != 8) = false := by simp; omega
  have s1 : ((k : Int) == 1) = false := by rw [beq_eq_false_iff_ne]; omega
  have s2 : ((k : Int) == 2) = false := by rw [beq_eq_false_iff_ne]; omega
  have s4 : ((k : Int) == 4) = false := by rw [beq_eq_false_iff_ne]; omega
  all_goals
    go_enter Try.func42, Try.ntmps42
    go_wp2_with fail
    clear hux
    go_loopw [6, 7, 8] (fun v6 v7 v8 wr => ∃ i : Nat, i ≤ k ∧ v8 = .int .i64 i ∧ v6 = .int .u64 (ux x i : Int) ∧ ∃ A' c', v7 = .slice A' i c' ∧ OwB wr w.heap.size A' i c' (numB x i i) ∧ Below w.heap.size w wr) (fun _ _ v _ => k - (intOf v).toNat)
    case atStart => exact ⟨0, by omega, rfl, rfl, none, 0, rfl, OwB.nil _ _ _, Below.refl _ _⟩
    case round =>
      obtain ⟨i, hik, rfl, rfl, A3, c3, rfl, ho3, hb3⟩ := hrel
      have hz3 := hb3.size
      by_cases hlt : i < k
      · have hby := ux_byte x i (by omega)
        have hus := ux_succ x i
        have ho3' := ho3.sl.alloc (Nat.le_refl _) (.cells #[.int .u8 ((byteAt x i).toNat : Int)] 5)
        have hlit := OwB.lit wr w.heap.size #[.int .u8 ((byteAt x i).toNat : Int)] [byteAt x i] 1 hz3 rfl (by simp [maxLen]) rfl
        have HB3 := Lib.hid hb3
        clear ho3 hb3
        go_wp2_with (at_builtin; refine wpList_append8 rfl (.tmp 63) (.tmp 64) rfl rfl hlit rfl ho3' (by omega) (Nat.le_trans hz3 (by simp)) (i + 1) (by omega) ?_; intro A9 c9 w9 h9 q9)
        go_roundw
        case rel =>
          refine ⟨i + 1, by omega, by go_num, by rw [ux_wrap], A9, c9, rfl, ?_, q9.below hlit (HB3.out.alloc hz3 _) (Nat.le_refl _) (Nat.le_trans hz3 (by simp))⟩
          rw [numB_cons]
          exact h9
        case measure => simp [intOf]; omega
      · obtain rfl : i = k := by omega
        go_wp2_with fail
        go_ret2
        exact ⟨A3, c3, rfl, ho3, hb3⟩

theorem number_bad {w : World} {s : Int} (x : Int) (hx : (Lit.int .i64 x).wf = true) (h : ¬ okPut s x) :
    Calls Try.prog 42 #[.int .i64 s, .int .i64 x] w fun e w' => e = .returned (.tuple #[.slice none 0 0, .int .i64 (putErr s)]) ∧ w = w' := by
  by_cases hs : sz s
  · have hcase : (s ≤ 1 ∧ 1 ≤ s ∧ x < 0) ∨ (s ≤ 1 ∧ 1 ≤ s ∧ 255 < x) ∨ (s ≤ 2 ∧ 2 ≤ s ∧ x < 0) ∨ (s ≤ 2 ∧ 2 ≤ s ∧ 65535 < x) ∨ (s ≤ 4 ∧ 4 ≤ s ∧ x < 0) ∨ (s ≤ 4 ∧ 4 ≤ s ∧ 4294967295 < x) := by
      by_cases h0 : x < 0
      · rcases hs with rfl | rfl | rfl | rfl
        · simp [h0]
        · simp [h0]
        · simp [h0]
        · exact absurd ⟨by simp [sz], .inl rfl⟩ h
      · rcases hs with rfl | rfl | rfl | rfl
        · right; left
          refine ⟨by omega, by omega, ?_⟩
          by_cases h1 : x < 256
          · exact absurd ⟨by simp [sz], .inr ⟨by omega, h1⟩⟩ h
          · omega
        · right; right; right; left
          refine ⟨by omega, by omega, ?_⟩
          by_cases h1 : x < 65536
          · exact absurd ⟨by simp [sz], .inr ⟨by omega, h1⟩⟩ h
          · omega
        · right; right; right; right; right
          refine ⟨by omega, by omega, ?_⟩
          by_cases h1 : x < 4294967296
          · exact absurd ⟨by simp [sz], .inr ⟨by omega, h1⟩⟩ h
          · omega
        · exact absurd ⟨by simp [sz], .inl rfl⟩ h
    have hp : putErr s = 1 := by rw [putErr, if_pos (show s = 1 ∨ s = 2 ∨ s = 4 ∨ s = 8 from hs)]
    rw [hp]
    clear hp h hs hx
    rcases hcase with ⟨h1, h2, h3⟩ | ⟨h1, h2, h3⟩ | ⟨h1, h2, h3⟩ | ⟨h1, h2, h3⟩ | ⟨h1, h2, h3⟩ | ⟨h1, h2, h3⟩
    all_goals
      go_enter Try.func42, Try.ntmps42
      go_wp2_with fail
      go_ret2
      exact ⟨rfl, rfl⟩
  · have h1 : (s != 1) = true := by rw [bne_iff_ne]; rintro rfl; exact hs (.inl rfl)
    have h2 : (s != 2) = true := by rw [bne_iff_ne]; rintro rfl; exact hs (.inr (.inl rfl))
    have h4 : (s != 4) = true := by rw [bne_iff_ne]; rintro rfl; exact hs (.inr (.inr (.inl rfl)))
    have h8 : (s != 8) = true := by rw [bne_iff_ne]; rintro rfl; exact hs (.inr (.inr (.inr rfl)))
    have hp : putErr s = 2 := by rw [putErr, if_neg (show ¬ (s = 1 ∨ s = 2 ∨ s = 4 ∨ s = 8) from hs)]
    rw [hp]
    clear hp h hs hx
    go_enter Try.func42, Try.ntmps42
    go_wp2_with fail
    go_ret2
    exact ⟨rfl, rfl⟩
end Go.Proofs.Ytjjpifppdjpcnaa
