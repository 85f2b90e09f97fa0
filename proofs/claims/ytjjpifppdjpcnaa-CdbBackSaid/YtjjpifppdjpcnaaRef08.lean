/-
  The reference's words: Number, Take, Row, Rows.
-/
import Derived.Test.YtjjpifppdjpcnaaTake
namespace Go.Proofs.Ytjjpifppdjpcnaa
open Go.RowKit
set_option linter.unusedVariables false
set_option maxRecDepth 100000

theorem ref_take_bad1 {w : World} {A : Option Addr} {n c : Nat} {s : Int} (h : ¬ sz s) :
    Calls Try.prog 51 #[.slice A n c, .int .i64 s] w fun e w' => e = .returned (.tuple #[.int .i64 0, .bool false]) ∧ w = w' := by
  have h1 : (s != 1) = true := by rw [bne_iff_ne]; rintro rfl; exact h (.inl rfl)
  have h2 : (s != 2) = true := by rw [bne_iff_ne]; rintro rfl; exact h (.inr (.inl rfl))
  have h4 : (s != 4) = true := by rw [bne_iff_ne]; rintro rfl; exact h (.inr (.inr (.inl rfl)))
  have h8 : (s != 8) = true := by rw [bne_iff_ne]; rintro rfl; exact h (.inr (.inr (.inr rfl)))
  clear h
  go_enter Try.func51, Try.ntmps51
  go_wp2
  go_ret2
  exact ⟨rfl, rfl⟩
theorem ref_take_bad2 {w : World} {A : Option Addr} {n c : Nat} {s : Int} (h : sz s) (hn : (n : Int) < s) :
    Calls Try.prog 51 #[.slice A n c, .int .i64 s] w fun e w' => e = .returned (.tuple #[.int .i64 0, .bool false]) ∧ w = w' := by
  rcases h with rfl | rfl | rfl | rfl
  all_goals
    go_enter Try.func51, Try.ntmps51
    go_wp2
    go_ret2
    exact ⟨rfl, rfl⟩
theorem ref_take_ok {w : World} {B : Nat} {A : Option Addr} {n c : Nat} {bs : List UInt8} (ha : SlB w B A n c bs) {k : Nat} (h : sz k) (hk : k ≤ n) :
    Calls Try.prog 51 #[.slice A n c, .int .i64 k] w fun e w' => e = .returned (.tuple #[.int .i64 (i64v (bigN (bs.take k))), .bool true]) ∧ w = w' := by
  have hk8 : k ≤ 8 := by have := h; unfold sz at this; omega
  have hk0 : 0 < k := by have := h; unfold sz at this; omega
  have hnc := ha.le
  obtain ⟨b, off, rfl, hb, hj⟩ := ha.at_ (by omega)
  have HL := Lib.hid ha.len
  have HJ := Lib.hid hj
  have hcm : c ≤ 9223372036854775807 := ha.cap
  clear ha hj
  unfold sz at h
  rcases h with h | h | h | h
  all_goals
    have hka := Int.le_of_eq h
    have hkb := Int.le_of_eq h.symm
    clear h
    go_enter Try.func51, Try.ntmps51
    go_wp2_with fail
    go_loop [6, 7] (fun u i => ∃ j : Nat, j ≤ k ∧ i = .int .i64 j ∧ u = .int .u64 (u64v (bigN (bs.take j)))) (fun _ i => k - (intOf i).toNat)
    case atStart => exact ⟨0, by omega, rfl, rfl⟩
    case round =>
      obtain ⟨j, hjk, rfl, rfl⟩ := hrel
      by_cases hlt : j < k
      · obtain ⟨x, hx⟩ : ∃ x, bs[j]? = some x := ⟨bs[j]'(by have := HL.out; omega), List.getElem?_eq_getElem _⟩
        have hc := HJ.out j x hx
        have HX := Lib.hid hx
        have hx0 : (0 : Int) ≤ (x.toNat : Int) := by omega
        have hx1 : (x.toNat : Int) < 256 := by have := UInt8.toNat_lt x; omega
        clear hx
        go_wp2_with fail
        go_round
        case rel => exact ⟨j + 1, by omega, by go_num, by rw [take_snoc' bs j x HX.out, bigN_snoc, ← u64v_step]⟩
        case measure => simp [intOf]; omega
      · obtain rfl : j = k := by omega
        have hiu := i64_of_u64v (bigN (bs.take j))
        go_wp2_with fail
        go_ret2
        exact ⟨rfl, rfl⟩
end Go.Proofs.Ytjjpifppdjpcnaa
