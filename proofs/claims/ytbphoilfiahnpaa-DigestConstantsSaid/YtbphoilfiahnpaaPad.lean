/-
  digest.Pad, and the reference's: what is put behind a text.
-/
import Derived.Test.YtbphoilfiahnpaaZeros
namespace Go.Proofs.Ytbphoilfiahnpaa
open Go.RowKit
set_option linter.unusedVariables false
set_option maxRecDepth 100000

/-- The length that is written down. -/
def padN (n : Int) : Nat := if n < 0 ∨ 1099511627776 < n then 0 else n.toNat
/-- How many noughts. -/
def padZ (m : Nat) : Nat := (119 - m % 64) % 64
/-- What is put behind a text of m bytes. -/
def padB (m : Nat) : List UInt8 := [128] ++ zer8 (padZ m) ++ bigB (m * 8) 8
theorem len_padB (m : Nat) : (padB m).length = 9 + padZ m := by
  simp only [padB, List.length_append, len_zer8, len_bigB, List.length_cons, List.length_nil]
  omega
theorem padN_le (n : Int) : padN n ≤ 1099511627776 := by unfold padN; split <;> omega
theorem padZ_lt (m : Nat) : padZ m < 64 := by unfold padZ; omega

set_option maxHeartbeats 400000 in
theorem pad_c (n : Int) (hn : (Lit.int .i64 n).wf = true) (w : World) :
    Calls Try.prog 25 #[.int .i64 n] w fun e w' => ∃ A c, e = .returned (.slice A (9 + padZ (padN n)) c) ∧ OwB w' w.heap.size A (9 + padZ (padN n)) c (padB (padN n)) ∧ Below w.heap.size w w' := by
  have hx := i64_bd hn
  clear hn
  have hl := padN_le n
  have hz := padZ_lt (padN n)
  obtain ⟨m, hm⟩ : ∃ m, m = padN n := ⟨_, rfl⟩
  rw [← hm] at hl hz ⊢
  have HM := Lib.hid hm
  obtain ⟨z, hzz⟩ : ∃ z, z = padZ m := ⟨_, rfl⟩
  have HZ := Lib.hid hzz
  have hw0 : OwB (w.alloc (.cells #[.int .u8 128] 5)) w.heap.size (some ⟨w.heap.size, 0, none⟩) 1 1 [128] := OwB.lit w w.heap.size _ [128] 1 (Nat.le_refl _) rfl (by simp [maxLen]) rfl
  have hb0 : Below w.heap.size w (w.alloc (.cells #[.int .u8 128] 5)) := (Below.refl _ _).alloc (Nat.le_refl _) _
  have hmz : (119 - (m : Int) % 64) % 64 = (z : Int) := by rw [hzz, padZ]; omega
  have hm8 : (m : Int) * 8 % 18446744073709551616 = ((m * 8 : Nat) : Int) := by omega
  rw [← hzz] at hz
  have hcase : n < 0 ∧ m = 0 ∨ 1099511627776 < n ∧ m = 0 ∨ n = (m : Int) := by
    rw [hm]; unfold padN; split <;> omega
  clear hm hzz
  rcases hcase with ⟨h1, rfl⟩ | ⟨h1, rfl⟩ | rfl
  · obtain rfl : z = 55 := HZ.out
    clear hmz hm8
    go_enter Try.func25, Try.ntmps25
    go_wp2_with (at_builtin; refine wpList_append_mk (m := 55) rfl (.tmp 15) (.tmp 16) rfl rfl hw0 rfl (by omega) (by simp) 56 rfl ?_; intro A1 c1 w1 h1' q1; have hb1 : Below w.heap.size w w1 := q1.below hw0 hb0 (Nat.le_refl _) (by simp))
    refine (appendBig_c (k := 8) (x := 0) h1' hb1.size (by omega) (by omega) (by omega) (by omega)).mono ?_
    rintro e w2 ⟨A2, c2, rfl, h2, hb2⟩
    go_wp2_with fail
    go_ret
    exact ⟨A2, c2, rfl, h2, hb1.trans hb2⟩
  · obtain rfl : z = 55 := HZ.out
    have h0 : 0 ≤ n := by omega
    clear hmz hm8
    go_enter Try.func25, Try.ntmps25
    go_wp2_with (at_builtin; refine wpList_append_mk (m := 55) rfl (.tmp 15) (.tmp 16) rfl rfl hw0 rfl (by omega) (by simp) 56 rfl ?_; intro A1 c1 w1 h1' q1; have hb1 : Below w.heap.size w w1 := q1.below hw0 hb0 (Nat.le_refl _) (by simp))
    refine (appendBig_c (k := 8) (x := 0) h1' hb1.size (by omega) (by omega) (by omega) (by omega)).mono ?_
    rintro e w2 ⟨A2, c2, rfl, h2, hb2⟩
    go_wp2_with fail
    go_ret
    exact ⟨A2, c2, rfl, h2, hb1.trans hb2⟩
  · have h0 : (0 : Int) ≤ (m : Int) := by omega
    have h1 : (m : Int) ≤ 1099511627776 := by omega
    have HMZ := Lib.hid hmz
    clear hmz
    go_enter Try.func25, Try.ntmps25
    go_wp2_with (at_builtin; refine wpList_append_mk (m := z) rfl (.tmp 15) (.tmp 16) rfl rfl hw0 (congrArg (Value.int .i64) HMZ.out) (by omega) (by simp) (1 + z) rfl ?_; intro A1 c1 w1 h1' q1; have hb1 : Below w.heap.size w w1 := q1.below hw0 hb0 (Nat.le_refl _) (by simp))
    refine (appendBig_c (k := 8) (x := m * 8) h1' hb1.size (by omega) (by omega) (by omega) (by omega)).mono ?_
    rintro e w2 ⟨A2, c2, rfl, h2, hb2⟩
    go_wp2_with fail
    go_ret
    have e1 : 1 + z + 8 = 9 + padZ m := by rw [← HZ.out]; omega
    refine ⟨A2, c2, ?_, ?_, hb1.trans hb2⟩
    · rw [← e1]; rfl
    · rw [← e1, padB, ← HZ.out]; exact h2
end Go.Proofs.Ytbphoilfiahnpaa
