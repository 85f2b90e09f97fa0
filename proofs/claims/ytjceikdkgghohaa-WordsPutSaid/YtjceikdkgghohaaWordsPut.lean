/-
  WordsPut: what bytes numbers of every size have, behind any bytes.
-/
import Derived.Test.YtjceikdkgghohaaNumber
import Derived.Test.YtjceikdkgghohaaApart2
namespace Go.Proofs.Ytjceikdkgghohaa.wordsPut
open Go.RowKit
set_option linter.unusedVariables false
set_option maxRecDepth 100000

theorem ok300 : okPut (2 : Nat) 300 := by refine ⟨by simp [sz], .inr ⟨by omega, by decide⟩⟩
theorem wf300 : (Lit.int .i64 300).wf = true := by decide
theorem b300 : ([] ++ numB 300 2 2 == [1, 44]) = true := by decide

/-- The row of Copy that stands is one's own, and reads as the bytes. -/
theorem copy_own {w : World} {base g n : Nat} {bs : List UInt8} (h : OwB w base (some ⟨g, 0, none⟩) (n + 2) (n + 2) (bs ++ [0xa5, 0x5a])) (hl : bs.length = n) : OwB w base (some ⟨g, 0, none⟩) n (n + 2) bs := by
  have := h.trim (k := n) (by omega)
  rwa [List.take_left' hl] at this

theorem own_lt {w : World} {base g n c : Nat} {bs : List UInt8} (h : OwB w base (some ⟨g, 0, none⟩) n c bs) (hc : 0 < c) : g < w.heap.size := by
  obtain ⟨b, off, e1, e2, _⟩ := h.sl.at_ hc
  simp only [Option.some.injEq, Addr.mk.injEq, and_true] at e1
  omega

set_option maxHeartbeats 1000000 in
theorem walk_ok (A0 : Option Addr) (n0 c0 : Nat) (bs0 : List UInt8) (k : Nat) (x : Int) (w : World) (w0 : SlB w w.heap.size A0 n0 c0 bs0) (hx : (Lit.int .i64 x).wf = true) (hok : okPut k x) :
    Calls Try.prog 6 #[.slice A0 n0 c0, .int .i64 k, .int .i64 x] w fun e w' => e = .returned (.bool true) ∧ Below w.heap.size w w' := by
  have HW := Lib.hid hx
  have HK := Lib.hid hok
  have hmx := w0.mx
  have hk8 : k ≤ 8 := by have := hok.1; unfold sz at this; omega
  clear hx hok
  go_enter Try.func6, Try.ntmps6
  go_wp2_with fail
  refine (put_good (SlB.nil w w.heap.size none) (Nat.le_refl _) (by omega) 300 wf300 ok300).mono ?_
  rintro e w1 ⟨A1, c1, rfl, ho1, hb1⟩
  have hz1 := hb1.size
  have HO1 := Lib.hid ho1
  clear ho1
  go_wp2_with fail
  refine (same_c (HO1.out.alloc _).sl (SlB.new w1 #[.int .u8 1, .int .u8 44] [1, 44] 2 (Nat.lt_succ_self _) rfl (by simp [maxLen]) rfl) true b300).mono ?_
  rintro e w2 ⟨rfl, rfl⟩
  have hb2 : Below w.heap.size w (w1.alloc (.cells #[.int .u8 1, .int .u8 44] 5)) := hb1.alloc hz1 _
  obtain ⟨w2, hw2⟩ : ∃ w2, w2 = w1.alloc (.cells #[.int .u8 1, .int .u8 44] 5) := ⟨_, rfl⟩
  rw [← hw2] at hb2 ⊢
  clear hw2
  have hz2 := hb2.size
  by_cases hbig : 65536 < n0
  · have hbI : (65536 : Int) < (n0 : Int) := by omega
    go_wp2_with fail
    go_ret
    exact ⟨rfl, hb2⟩
  have hsm : (n0 : Int) ≤ 65536 := by omega
  clear hbig
  go_wp2_with fail
  refine (copy_c (w0.below hb2) hz2 (by omega)).mono ?_
  rintro e w3 ⟨rfl, ho3, hb3⟩
  have hb3w := hb2.trans (hb3.mono hz2)
  have hz3 := hb3w.size
  have HO3 := Lib.hid (copy_own ho3 w0.len)
  have HP3 := Lib.hid ho3
  clear ho3
  go_wp2_with fail
  refine (put_good HO3.out.sl (Nat.le_refl _) (by omega) x HW.out HK.out).mono ?_
  rintro e w4 ⟨A4, c4, rfl, ho4, hb4⟩
  have hb4w := hb3w.trans (hb4.mono hz3)
  have hz34 := hb4.size
  have hz4 := hb4w.size
  have HO4 := Lib.hid ho4
  clear ho4
  go_wp2_with fail
  refine (number_ok x HW.out HK.out).mono ?_
  rintro e w5 ⟨A5, c5, rfl, ho5, hb5⟩
  have hb5w := hb4w.trans (hb5.mono hz4)
  have hz5 := hb5w.size
  have h50 : OwB (w5.alloc (.cells #[] 5)) w5.heap.size (some ⟨w5.heap.size, 0, none⟩) 0 0 [] := OwB.nil _ _ _
  have HO5 := Lib.hid ho5
  have h51 := (w0.below hb5w).alloc hz5 (.cells #[] 5)
  have hl0 := Lib.hid w0.len
  clear ho5
  go_wp2_with (first
    | (at_builtin; refine wpList_append8 rfl (.tmp 46) (.tmp 47) rfl rfl h50 rfl h51 (by omega) (by simp) n0 (by omega) ?_; intro A6 c6 w6 h6 q6; have hb6 : Below w5.heap.size w5 w6 := q6.below h50 ((Below.refl _ _).alloc (Nat.le_refl _) _) (Nat.le_refl _) (by simp))
    | (at_builtin; refine wpList_append8 rfl (.tmp 48) (.tmp 49) rfl rfl h6 rfl (HO5.out.below hb6).sl (by omega) hb6.size (n0 + k) rfl ?_; intro A7 c7 w7 h7 q7; have hb7 : Below w5.heap.size w5 w7 := q7.below h6 hb6 (Nat.le_refl _) hb6.size))
  have hb7w := hb5w.trans (hb7.mono hz5)
  have hz7 := hb7w.size
  have HB47 : Below w4.heap.size w4 w7 := hb5.trans (hb7.mono hb5.size)
  refine (same_c (HO4.out.below HB47).sl h7.sl true (by simp)).mono ?_
  rintro e w8 ⟨rfl, rfl⟩
  go_wp2_with (first
    | (go_at_call 26; refine (num_nil _).mono ?_; rintro e w8 ⟨rfl, rfl⟩)
    | (go_at_call 21; refine (kept_c ((HP3.out.below hb4).below (HB47)).sl (w0.below hb7w) (by omega)).mono ?_; rintro e w8 ⟨rfl, rfl⟩)
    | (go_at_call 23; refine (apart2_c (base := w.heap.size) (Row.base_le (HO4.out.below HB47) hz3) (Row.base_le ((HO3.out.below hb4).below HB47) hz2) (by omega) (by omega) hz7 (far_of_base (HO4.out.below HB47) fun g hg => ?_)).mono ?_))
  · rw [wrote, if_neg (by omega)] at hg
    simp at hg
    have := own_lt HP3.out (by omega)
    omega
  · rintro e w9 ⟨rfl, hb9⟩
    go_wp2_with fail
    go_ret
    exact ⟨rfl, (hb7w.alloc hz7 _).trans hb9⟩

set_option maxHeartbeats 1000000 in
theorem walk_bad (A0 : Option Addr) (n0 c0 : Nat) (bs0 : List UInt8) (s : Int) (x : Int) (w : World) (w0 : SlB w w.heap.size A0 n0 c0 bs0) (hx : (Lit.int .i64 x).wf = true) (hok : ¬ okPut s x) :
    Calls Try.prog 6 #[.slice A0 n0 c0, .int .i64 s, .int .i64 x] w fun e w' => e = .returned (.bool true) ∧ Below w.heap.size w w' := by
  have HW := Lib.hid hx
  have HK := Lib.hid hok
  have hmx := w0.mx
  have hpe := putErr_ne s
  clear hx hok
  go_enter Try.func6, Try.ntmps6
  go_wp2_with fail
  refine (put_good (SlB.nil w w.heap.size none) (Nat.le_refl _) (by omega) 300 wf300 ok300).mono ?_
  rintro e w1 ⟨A1, c1, rfl, ho1, hb1⟩
  have hz1 := hb1.size
  have HO1 := Lib.hid ho1
  clear ho1
  go_wp2_with fail
  refine (same_c (HO1.out.alloc _).sl (SlB.new w1 #[.int .u8 1, .int .u8 44] [1, 44] 2 (Nat.lt_succ_self _) rfl (by simp [maxLen]) rfl) true b300).mono ?_
  rintro e w2 ⟨rfl, rfl⟩
  have hb2 : Below w.heap.size w (w1.alloc (.cells #[.int .u8 1, .int .u8 44] 5)) := hb1.alloc hz1 _
  obtain ⟨w2, hw2⟩ : ∃ w2, w2 = w1.alloc (.cells #[.int .u8 1, .int .u8 44] 5) := ⟨_, rfl⟩
  rw [← hw2] at hb2 ⊢
  clear hw2
  have hz2 := hb2.size
  by_cases hbig : 65536 < n0
  · have hbI : (65536 : Int) < (n0 : Int) := by omega
    go_wp2_with fail
    go_ret
    exact ⟨rfl, hb2⟩
  have hsm : (n0 : Int) ≤ 65536 := by omega
  clear hbig
  go_wp2_with fail
  refine (copy_c (w0.below hb2) hz2 (by omega)).mono ?_
  rintro e w3 ⟨rfl, ho3, hb3⟩
  have hb3w := hb2.trans (hb3.mono hz2)
  have hz3 := hb3w.size
  have HO3 := Lib.hid (copy_own ho3 w0.len)
  have HP3 := Lib.hid ho3
  clear ho3
  go_wp2_with fail
  refine (put_bad x HK.out).mono ?_
  rintro e w4 ⟨rfl, rfl⟩
  go_wp2_with fail
  refine (number_bad x HW.out HK.out).mono ?_
  rintro e w4 ⟨rfl, rfl⟩
  go_wp2_with (first
    | (go_at_call 22; refine (same_c (SlB.nil w3 0 none) (SlB.nil w3 0 none) true rfl).mono ?_; rintro e w8 ⟨rfl, rfl⟩)
    | (go_at_call 26; refine (num_err _ hpe _).mono ?_; rintro e w8 ⟨rfl, rfl⟩)
    | (go_at_call 21; refine (kept_c HP3.out.sl (w0.below hb3w) (by omega)).mono ?_; rintro e w8 ⟨rfl, rfl⟩)
    | (go_at_call 23; refine (apart2_c (base := w.heap.size) (OwB.nil w3 w.heap.size none) (Row.base_le HO3.out hz2) (by omega) (by omega) hz3 (.inl rfl)).mono ?_; rintro e w9 ⟨rfl, hb9⟩))
  go_ret
  exact ⟨rfl, (hb3w.alloc hz3 _).trans hb9⟩

theorem walk (A0 : Option Addr) (n0 c0 : Nat) (bs0 : List UInt8) (a1 : Int) (a2 : Int) (w : World) (w0 : SlB w w.heap.size A0 n0 c0 bs0) (y0 : c0 ≤ 140737488351232) (w1 : (Lit.int .i64 a1).wf = true) (w2 : (Lit.int .i64 a2).wf = true) :
    Calls Try.prog 6 #[.slice A0 n0 c0, .int .i64 a1, .int .i64 a2] w fun e w' => e = .returned (.bool true) ∧ Below w.heap.size w w' := by
  by_cases h : okPut a1 a2
  · obtain ⟨k, rfl⟩ : ∃ k : Nat, a1 = (k : Int) := ⟨a1.toNat, by have := h.1; unfold sz at this; omega⟩
    exact walk_ok A0 n0 c0 bs0 k a2 w w0 w2 h
  · exact walk_bad A0 n0 c0 bs0 a1 a2 w w0 w2 h
end Go.Proofs.Ytjceikdkgghohaa.wordsPut
