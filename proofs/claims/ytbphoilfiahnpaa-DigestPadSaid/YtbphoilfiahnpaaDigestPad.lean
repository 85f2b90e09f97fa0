/-
  DigestPad: what is put behind a text of any length.
-/
import Derived.Test.YtbphoilfiahnpaaRefPad
import Derived.Test.YtbphoilfiahnpaaNum
namespace Go.Proofs.Ytbphoilfiahnpaa.digestPad
open Go.RowKit
set_option linter.unusedVariables false
set_option maxRecDepth 100000

theorem padN_of (n : Int) (h : 0 ≤ n) (h1 : n ≤ 1099511627776) : n = (padN n : Int) := by unfold padN; split <;> omega

set_option maxHeartbeats 1000000 in
theorem walk (a0 : Int) (w : World) (w0 : (Lit.int .i64 a0).wf = true) :
    Calls Try.prog 4 #[.int .i64 a0] w fun e w' => e = .returned (.bool true) ∧ Below w.heap.size w w' := by
  have hx := i64_bd w0
  have hz := padZ_lt (padN a0)
  have hc : a0 < 0 ∨ (0 ≤ a0 ∧ 1099511627776 < a0) ∨ (0 ≤ a0 ∧ a0 ≤ 1099511627776) := by omega
  have HP := Lib.hid (pad_c a0 w0)
  have HR := Lib.hid (refpad_c a0 w0)
  have hsum : Hid (0 ≤ a0 → a0 ≤ 1099511627776 → (a0 + ((9 + padZ (padN a0) : Nat) : Int)) % 64 = 0) := Lib.hid fun h1 h2 => by
    have h3 := padN_of a0 h1 h2
    have h4 : padZ (padN a0) = (119 - padN a0 % 64) % 64 := rfl
    omega
  obtain ⟨l, hl⟩ : ∃ l, l = 9 + padZ (padN a0) := ⟨_, rfl⟩
  rw [← hl] at HP HR hsum
  have hl72 : l ≤ 72 := by omega
  clear hl hz
  rcases hc with h1 | ⟨h0, h1⟩ | ⟨h0, h1⟩
  all_goals
    try have hs := hsum.out h0 h1
    go_enter Try.func4, Try.ntmps4
    go_wp2_with fail
    refine (HP.out w).mono ?_
    rintro e w1 ⟨A1, c1, rfl, h1', hb1⟩
    have hz1 := hb1.size
    go_wp2_with fail
    refine (pad_c 55 (by decide) _).mono ?_
    rintro e w2 ⟨A2, c2, rfl, h2', hb2⟩
    have hb2w := hb1.trans (hb2.mono hz1)
    have hz2 := hb2w.size
    go_wp2_with fail
    refine (pad_c 56 (by decide) _).mono ?_
    rintro e w3 ⟨A3, c3, rfl, h3', hb3⟩
    have hb3w := hb2w.trans (hb3.mono hz2)
    have hz3 := hb3w.size
    go_wp2_with fail
    refine (HR.out w3).mono ?_
    rintro e w4 ⟨A4, c4, rfl, h4', hb4⟩
    have hb4w := hb3w.trans (hb4.mono hz3)
    go_wp2_with fail
    refine (same_c ((h1'.sl.below hb2).below (hb3.mono hb2.size) |>.below (hb4.mono (Nat.le_trans hb2.size hb3.size))) h4'.sl true (by simp)).mono ?_
    rintro e w5 ⟨rfl, rfl⟩
    go_wp2_with fail
    go_ret
    exact ⟨rfl, hb4w⟩
end Go.Proofs.Ytbphoilfiahnpaa.digestPad
