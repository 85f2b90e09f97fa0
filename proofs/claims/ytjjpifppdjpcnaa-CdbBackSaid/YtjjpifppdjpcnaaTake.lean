/-
  words.Take.
-/
import Derived.Test.YtjjpifppdjpcnaaWords
import Derived.Test.YtjjpifppdjpcnaaBase
namespace Go.Proofs.Ytjjpifppdjpcnaa
open Go.RowKit
set_option linter.unusedVariables false
set_option maxRecDepth 100000

theorem take_bad1 {w : World} {A : Option Addr} {n c : Nat} {s : Int} (h : ¬ sz s) :
    Calls Try.prog 49 #[.slice A n c, .int .i64 s] w fun e w' => e = .returned (.tuple #[.int .i64 0, .slice none 0 0, .iface 35 (.int .i64 2)]) ∧ w = w' := by
  have H := Lib.hid h
  clear h
  go_enter Try.func49, Try.ntmps49
  go_wp2_with (go_at_call 62; refine (sized_no _ H.out _).mono ?_; rintro e w' ⟨rfl, rfl⟩)
  go_ret3
  exact ⟨rfl, rfl⟩
theorem take_bad2 {w : World} {A : Option Addr} {n c : Nat} {s : Int} (h : sz s) (hn : (n : Int) < s) :
    Calls Try.prog 49 #[.slice A n c, .int .i64 s] w fun e w' => e = .returned (.tuple #[.int .i64 0, .slice none 0 0, .iface 35 (.int .i64 2)]) ∧ w = w' := by
  have H := Lib.hid h
  clear h
  go_enter Try.func49, Try.ntmps49
  go_wp2_with (go_at_call 62; refine (sized_yes _ H.out _).mono ?_; rintro e w' ⟨rfl, rfl⟩)
  go_ret3
  exact ⟨rfl, rfl⟩

theorem take_ok {w : World} {B : Nat} {A : Option Addr} {n c : Nat} {bs : List UInt8} (ha : SlB w B A n c bs) (hB : B ≤ w.heap.size) (hnn : n ≤ 140737488355328) {k : Nat} (h : sz k) (hk : k ≤ n) :
    Calls Try.prog 49 #[.slice A n c, .int .i64 k] w fun e w' => ∃ A' c', e = .returned (.tuple #[.int .i64 (i64v (bigN (bs.take k))), .slice A' (n - k) c', .nilIface]) ∧
      OwB w' w.heap.size A' (n - k) c' (bs.drop k) ∧ Below w.heap.size w w' := by
  have H := Lib.hid h
  have hkn : (k : Int) ≤ (n : Int) := by omega
  have hk8 : k ≤ 8 := by have := h; unfold sz at this; omega
  have hk0 : 0 < k := by have := h; unfold sz at this; omega
  have hnc := ha.le
  obtain ⟨b, off, rfl, hb, hj⟩ := ha.at_ (by omega)
  have HA := Lib.hid ha
  have HJ := Lib.hid hj
  have hcm : c ≤ 9223372036854775807 := ha.cap
  clear h ha hj
  go_enter Try.func49, Try.ntmps49
  go_wp2_with (go_at_call 62; refine (sized_yes _ H.out _).mono ?_; rintro e w' ⟨rfl, rfl⟩)
  go_loop [7, 24] (fun m i => ∃ j : Nat, j ≤ k ∧ i = .int .i64 j ∧ m = .int .i64 (i64v (bigN (bs.take j)))) (fun _ i => k - (intOf i).toNat)
  case atStart => exact ⟨0, by omega, rfl, rfl⟩
  case round =>
    obtain ⟨j, hjk, rfl, rfl⟩ := hrel
    by_cases hlt : j < k
    · obtain ⟨x, hx⟩ : ∃ x, bs[j]? = some x := ⟨bs[j]'(by have := HA.out.len; omega), List.getElem?_eq_getElem _⟩
      have hc := HJ.out j x hx
      have HX := Lib.hid hx
      have hx0 : (0 : Int) ≤ (x.toNat : Int) := by omega
      have hx1 : (x.toNat : Int) < 256 := by have := UInt8.toNat_lt x; omega
      clear hx
      go_wp2_with fail
      go_round
      case rel => exact ⟨j + 1, by omega, by go_num, by rw [take_snoc' bs j x HX.out, bigN_snoc, i64_or_byte _ _ (UInt8.toNat_lt x)]⟩
      case measure => simp [intOf]; omega
    · obtain rfl : j = k := by omega
      by_cases hck : c = j
      · subst hck
        obtain rfl : n = c := by omega
        go_wp2_with fail
        refine (clone_c (SlB.nil w B _) hB (by omega)).mono ?_
        rintro e w1 ⟨A1, c1, rfl, h1, h2, _⟩
        go_wp2_with fail
        go_ret3
        exact ⟨A1, c1, by rw [Nat.sub_self]; rfl, by rw [Nat.sub_self, List.drop_of_length_le (by rw [HA.out.len]; exact Nat.le_refl _)]; exact h1, h2⟩
      · go_wp2_with fail
        refine (clone_c (bs := bs.drop j) (B := B) (by have := HA.out.tail hk; rwa [if_neg hck, Option.map_some, Addr.add_lit] at this) hB (by omega)).mono ?_
        rintro e w1 ⟨A1, c1, rfl, h1, h2, _⟩
        go_wp2_with fail
        go_ret3
        exact ⟨A1, c1, rfl, h1, h2⟩
end Go.Proofs.Ytjjpifppdjpcnaa
