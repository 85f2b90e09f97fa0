/-
  WordsBack: what is put is taken, and what is taken has no other form.
-/
import Derived.Test.YtjceikdkgghohaaPut
import Derived.Test.YtjceikdkgghohaaTake
import Derived.Test.YtjceikdkgghohaaByt2
namespace Go.Proofs.Ytjceikdkgghohaa.wordsBack
open Go.RowKit
set_option linter.unusedVariables false
set_option maxRecDepth 100000

theorem byteAt_succ (x : Int) (i : Nat) : byteAt x (i + 1) = byteAt (x / 256) i := by
  rw [byteAt, byteAt, show 8 * (i + 1) = 8 + 8 * i from by omega, Int.pow_add, ← Int.ediv_ediv_of_nonneg (by decide)]
  rfl
theorem numB_snoc (x : Int) (k : Nat) : numB x (k + 1) (k + 1) = numB (x / 256) k k ++ [byteAt x 0] := by
  rw [numB_succ, show k + 1 - 1 - k = 0 from by omega]
  congr 1
  simp only [numB]
  refine List.map_congr_left fun t ht => ?_
  have := List.mem_range.1 ht
  rw [show k + 1 - 1 - t = (k - 1 - t) + 1 from by omega, byteAt_succ]
theorem bigN_numB : ∀ (k : Nat) (x : Int), (bigN (numB x k k) : Int) = x % (2 : Int) ^ (8 * k)
  | 0, x => by simp [numB, bigN, Int.emod_one]
  | k + 1, x => by
    rw [numB_snoc, bigN_snoc]
    have ih := bigN_numB k (x / 256)
    have hb : ((byteAt x 0).toNat : Int) = x % 256 := by
      rw [byteAt, UInt8.toNat_ofNat']
      simp only [Nat.mul_zero, Int.pow_zero, Int.ediv_one]
      omega
    rw [Int.natCast_add, Int.natCast_mul, ih, hb, show 8 * (k + 1) = 8 + 8 * k from by omega, Int.pow_add]
    rw [show ((2 : Int) ^ 8) = 256 from rfl]
    have hp : (0 : Int) < (2 : Int) ^ (8 * k) := Int.pow_pos (by omega)
    generalize (2 : Int) ^ (8 * k) = p at *
    have h1 : x / 256 % p + p * (x / 256 / p) = x / 256 := Int.emod_add_mul_ediv (x / 256) p
    have h2 := Int.emod_nonneg (x / 256) (show p ≠ 0 by omega)
    have h3 := Int.emod_lt_of_pos (x / 256) hp
    have h4 : (x / (256 * p) = x / 256 / p ∧ x % (256 * p) = x / 256 % p * 256 + x % 256) := by
      rw [Int.ediv_emod_unique (by omega)]
      refine ⟨?_, by omega, ?_⟩
      · rw [Int.mul_assoc]
        generalize p * (x / 256 / p) = q at *
        omega
      · omega
    rw [h4.2]
    rfl

theorem byteAt_mod (x y : Int) (i : Nat) (hi : i < 8) (h : x % 18446744073709551616 = y % 18446744073709551616) : byteAt x i = byteAt y i := by
  have e : x / (2 : Int) ^ (8 * i) % 256 = y / (2 : Int) ^ (8 * i) % 256 := by
    match i, hi with
    | 0, _ => simp only [Nat.mul_zero, Int.pow_zero]; omega
    | 1, _ => simp only [Nat.mul_one, Int.reducePow]; omega
    | 2, _ => simp only [Nat.reduceMul, Int.reducePow]; omega
    | 3, _ => simp only [Nat.reduceMul, Int.reducePow]; omega
    | 4, _ => simp only [Nat.reduceMul, Int.reducePow]; omega
    | 5, _ => simp only [Nat.reduceMul, Int.reducePow]; omega
    | 6, _ => simp only [Nat.reduceMul, Int.reducePow]; omega
    | 7, _ => simp only [Nat.reduceMul, Int.reducePow]; omega
  rw [byteAt, byteAt, e]
theorem i64v_cong (n : Nat) : i64v n % 18446744073709551616 = (n : Int) % 18446744073709551616 := by
  rw [i64v, IntKind.wrap_i64]; omega

/-- What is put is taken. -/
theorem back_num {k : Nat} {x : Int} (h : okPut k x) (hw : (Lit.int .i64 x).wf = true) : i64v (bigN (numB x k k)) = x := by
  have hb := i64_bd hw
  have e := bigN_numB k x
  rcases h.2 with h8 | ⟨h0, h1⟩
  · obtain rfl : k = 8 := by omega
    simp only [Nat.reduceMul, Int.reducePow] at e
    rw [i64v, e, IntKind.wrap_i64]
    omega
  · rw [Int.toNat_natCast] at h1
    rw [Int.emod_eq_of_lt h0 h1] at e
    rw [i64v, e, IntKind.wrap_i64]
    omega

theorem bigN_lt : ∀ (bs : List UInt8), bigN bs < 2 ^ (8 * bs.length) := by
  intro bs
  rw [← List.reverse_reverse bs]
  induction bs.reverse with
  | nil => simp [bigN]
  | cons c l ih =>
    rw [List.reverse_cons, bigN_snoc, List.length_append, List.length_singleton, show 8 * (l.reverse.length + 1) = 8 * l.reverse.length + 8 from by omega, Nat.pow_add]
    have := UInt8.toNat_lt c
    simp only [Nat.reducePow]
    omega
theorem numB_bigN : ∀ (bs : List UInt8), numB (bigN bs : Int) bs.length bs.length = bs := by
  intro bs
  rw [← List.reverse_reverse bs]
  induction bs.reverse with
  | nil => simp [numB]
  | cons c l ih =>
    rw [List.reverse_cons, bigN_snoc, List.length_append, List.length_singleton, numB_snoc]
    have h1 : (((bigN l.reverse * 256 + c.toNat : Nat) : Int) / 256) = (bigN l.reverse : Int) := by have := UInt8.toNat_lt c; omega
    have h2 : byteAt ((bigN l.reverse * 256 + c.toNat : Nat) : Int) 0 = c := by
      rw [byteAt]
      simp only [Nat.mul_zero, Int.pow_zero, Int.ediv_one]
      have := UInt8.toNat_lt c
      apply UInt8.toNat_inj.1
      rw [UInt8.toNat_ofNat']
      omega
    rw [h1, ih, h2]
/-- What is taken has no other form. -/
theorem back_bytes (bs : List UInt8) (h : bs.length ≤ 8) : numB (i64v (bigN bs)) bs.length bs.length = bs := by
  have e : numB (i64v (bigN bs)) bs.length bs.length = numB (bigN bs : Int) bs.length bs.length := by
    simp only [numB]
    refine List.map_congr_left fun t ht => ?_
    have := List.mem_range.1 ht
    exact byteAt_mod _ _ _ (by omega) (i64v_cong _)
  rw [e, numB_bigN]
theorem back_ok {k : Nat} (hk : sz k) (bs : List UInt8) (h : bs.length = k) : okPut k (i64v (bigN bs)) := by
  refine ⟨hk, ?_⟩
  have hlt := bigN_lt bs
  rw [h] at hlt
  rcases hk with e | e | e | e
  · right
    obtain rfl : k = 1 := by omega
    simp only [Nat.reduceMul, Nat.reducePow] at hlt
    rw [i64v, IntKind.wrap_i64]
    simp
    omega
  · right
    obtain rfl : k = 2 := by omega
    simp only [Nat.reduceMul, Nat.reducePow] at hlt
    rw [i64v, IntKind.wrap_i64]
    simp
    omega
  · right
    obtain rfl : k = 4 := by omega
    simp only [Nat.reduceMul, Nat.reducePow] at hlt
    rw [i64v, IntKind.wrap_i64]
    simp
    omega
  · left; omega
theorem i64v_wf (n : Nat) : (Lit.int .i64 (i64v n)).wf = true := by
  rw [i64v, IntKind.wrap_i64]
  exact WalkArith.wf_i64 (by omega)

theorem okm1 : okPut (8 : Nat) (-1) := ⟨by simp [sz], .inl rfl⟩
theorem wfm1 : (Lit.int .i64 (-1)).wf = true := by decide
theorem last255 : ([] ++ numB (-1) 8 8)[7]? = some 255 := by decide

set_option maxHeartbeats 1000000 in
theorem walk11 (k : Nat) (x : Int) (A2 : Option Addr) (n2 c2 : Nat) (bs2 : List UInt8) (w : World) (hx : (Lit.int .i64 x).wf = true) (w2 : SlB w w.heap.size A2 n2 c2 bs2) (y2 : c2 ≤ 140737488351232) (hok : okPut k x) (hs : sz k) (hk : k ≤ n2) :
    Calls Try.prog 9 #[.int .i64 k, .int .i64 x, .slice A2 n2 c2] w fun e w' => e = .returned (.bool true) ∧ Below w.heap.size w w' := by
  have HW := Lib.hid hx
  have HK := Lib.hid hok
  have hn2 : n2 ≤ 140737488351232 := Nat.le_trans w2.le y2
  have hk8 : k ≤ 8 := by have := hok.1; unfold sz at this; omega
  have hsz := Lib.hid hok.1
  have HS := Lib.hid hs
  have hkI : (k : Int) ≤ (n2 : Int) := by omega
  clear hs
  have H2 := Lib.hid w2
  clear hx hok w2
  go_enter Try.func9, Try.ntmps9
  go_wp2_with fail
  refine (put_good (SlB.nil w w.heap.size none) (Nat.le_refl _) (by omega) (-1) wfm1 okm1).mono ?_
  rintro e w1 ⟨A1, c1, rfl, ho1, hb1⟩
  have hz1 := hb1.size
  have hc8 : 8 ≤ c1 := ho1.2.1
  obtain ⟨g1, o1, rfl, _, hj1⟩ := ho1.sl.at_ (by omega)
  have hcell : w1.cell? ⟨g1, o1 + 7, none⟩ = some (.int .u8 255) := hj1 7 255 last255
  have hcm1 : c1 ≤ 9223372036854775807 := ho1.2.2.1
  clear ho1 hj1
  go_wp2_with fail
  refine (put_good (SlB.nil w1 w1.heap.size none) (Nat.le_refl _) (by omega) x HW.out HK.out).mono ?_
  rintro e w3 ⟨A3, c3, rfl, ho3, hb3⟩
  simp only [List.nil_append, Nat.zero_add] at ho3
  have hb3w := hb1.trans (hb3.mono hz1)
  have hz3 := hb3w.size
  have h23 := H2.out.below hb3w
  have hlk := len_numB x k k
  clear hcell
  have HO3 := Lib.hid ho3
  clear ho3
  go_wp2_with (at_builtin; refine wpList_append8 rfl (.tmp 45) (.tmp 46) rfl rfl HO3.out rfl h23 (by omega) hb3.size (k + n2) rfl ?_; intro A4 c4 w4 h4 q4; have hb4 : Below w.heap.size w w4 := q4.below HO3.out hb3w hz1 hz3)
  refine (take_ok h4.sl (Nat.le_refl _) (by omega) hsz.out (by omega)).mono ?_
  rintro e w5 ⟨A5, c5, rfl, ho5, hb5⟩
  rw [List.take_left' hlk] at *
  rw [List.drop_left' hlk, Nat.add_sub_cancel_left] at ho5
  rw [back_num HK.out HW.out, Nat.add_sub_cancel_left]
  have hb5w := hb4.trans (hb5.mono hb4.size)
  have HO5 := Lib.hid ho5
  clear ho5 h4 h23 q4
  have hz5 := hb5w.size
  go_wp2_with (go_at_call 22; refine (same_c HO5.out.sl (H2.out.below hb5w) true (by simp)).mono ?_; rintro e w8 ⟨rfl, rfl⟩)
  refine (take_ok (H2.out.below hb5w) (by have := (hb5w).size; omega) (by omega) HS.out hk).mono ?_
  rintro e w6 ⟨A6, c6, rfl, ho6, hb6⟩
  have hb6w := (hb5w).trans (hb6.mono (hb5w).size)
  have HO6 := Lib.hid ho6
  have hlt : (bs2.take k).length = k := by rw [List.length_take, H2.out.len]; omega
  have HLT := Lib.hid hlt
  clear ho6 hlt
  go_wp2_with fail
  refine (put_good (SlB.nil w6 w6.heap.size none) (Nat.le_refl _) (by omega) _ (i64v_wf _) (back_ok HS.out _ HLT.out)).mono ?_
  rintro e w7 ⟨A7, c7, rfl, ho7, hb7⟩
  have hb7w := hb6w.trans (hb7.mono hb6w.size)
  have hnum : numB (i64v (bigN (bs2.take k))) k k = bs2.take k := by
    have := back_bytes (bs2.take k) (by rw [HLT.out]; exact hk8)
    rwa [HLT.out] at this
  simp only [List.nil_append, Nat.zero_add, hnum] at ho7
  have HO7 := Lib.hid ho7
  have h67 := (HO6.out.below hb7).sl
  have HH67 := Lib.hid h67
  clear ho7 hnum h67
  go_wp2_with (at_builtin; refine wpList_append8W rfl (.tmp 84) (.tmp 85) rfl rfl HO7.out rfl HH67.out (by omega) hb7.size n2 (by omega) ?_; intro A8 c8 w8 h8 q8; have hb8 : Below w.heap.size w w8 := q8.below HO7.out hb7w hb6w.size hb7w.size)
  refine (same_c h8.sl (H2.out.below hb8) true (by simp)).mono ?_
  rintro e w9 ⟨rfl, rfl⟩
  go_wp2_with fail
  go_ret
  exact ⟨rfl, hb8⟩

set_option maxHeartbeats 1000000 in
theorem walk10 (k : Nat) (x : Int) (A2 : Option Addr) (n2 c2 : Nat) (bs2 : List UInt8) (w : World) (hx : (Lit.int .i64 x).wf = true) (w2 : SlB w w.heap.size A2 n2 c2 bs2) (y2 : c2 ≤ 140737488351232) (hok : okPut k x) (hb' : ∀ W : World, Calls Try.prog 18 #[.slice A2 n2 c2, .int .i64 k] W fun e w' => e = .returned (.tuple #[.int .i64 0, .slice none 0 0, .iface 33 (.int .i64 2)]) ∧ W = w') :
    Calls Try.prog 9 #[.int .i64 k, .int .i64 x, .slice A2 n2 c2] w fun e w' => e = .returned (.bool true) ∧ Below w.heap.size w w' := by
  have HW := Lib.hid hx
  have HK := Lib.hid hok
  have hn2 : n2 ≤ 140737488351232 := Nat.le_trans w2.le y2
  have hk8 : k ≤ 8 := by have := hok.1; unfold sz at this; omega
  have hsz := Lib.hid hok.1
  have HT := Lib.hid hb'
  clear hb'
  have H2 := Lib.hid w2
  clear hx hok w2
  go_enter Try.func9, Try.ntmps9
  go_wp2_with fail
  refine (put_good (SlB.nil w w.heap.size none) (Nat.le_refl _) (by omega) (-1) wfm1 okm1).mono ?_
  rintro e w1 ⟨A1, c1, rfl, ho1, hb1⟩
  have hz1 := hb1.size
  have hc8 : 8 ≤ c1 := ho1.2.1
  obtain ⟨g1, o1, rfl, _, hj1⟩ := ho1.sl.at_ (by omega)
  have hcell : w1.cell? ⟨g1, o1 + 7, none⟩ = some (.int .u8 255) := hj1 7 255 last255
  have hcm1 : c1 ≤ 9223372036854775807 := ho1.2.2.1
  clear ho1 hj1
  go_wp2_with fail
  refine (put_good (SlB.nil w1 w1.heap.size none) (Nat.le_refl _) (by omega) x HW.out HK.out).mono ?_
  rintro e w3 ⟨A3, c3, rfl, ho3, hb3⟩
  simp only [List.nil_append, Nat.zero_add] at ho3
  have hb3w := hb1.trans (hb3.mono hz1)
  have hz3 := hb3w.size
  have h23 := H2.out.below hb3w
  have hlk := len_numB x k k
  clear hcell
  have HO3 := Lib.hid ho3
  clear ho3
  go_wp2_with (at_builtin; refine wpList_append8 rfl (.tmp 45) (.tmp 46) rfl rfl HO3.out rfl h23 (by omega) hb3.size (k + n2) rfl ?_; intro A4 c4 w4 h4 q4; have hb4 : Below w.heap.size w w4 := q4.below HO3.out hb3w hz1 hz3)
  refine (take_ok h4.sl (Nat.le_refl _) (by omega) hsz.out (by omega)).mono ?_
  rintro e w5 ⟨A5, c5, rfl, ho5, hb5⟩
  rw [List.take_left' hlk] at *
  rw [List.drop_left' hlk, Nat.add_sub_cancel_left] at ho5
  rw [back_num HK.out HW.out, Nat.add_sub_cancel_left]
  have hb5w := hb4.trans (hb5.mono hb4.size)
  have HO5 := Lib.hid ho5
  clear ho5 h4 h23 q4
  have hz5 := hb5w.size
  go_wp2_with (go_at_call 22; refine (same_c HO5.out.sl (H2.out.below hb5w) true (by simp)).mono ?_; rintro e w8 ⟨rfl, rfl⟩)
  refine (HT.out _).mono ?_
  rintro e w6 ⟨rfl, rfl⟩
  go_wp2_with fail
  go_ret
  exact ⟨rfl, hb5w⟩

set_option maxHeartbeats 1000000 in
theorem walk01 (k : Nat) (x : Int) (A2 : Option Addr) (n2 c2 : Nat) (bs2 : List UInt8) (w : World) (hx : (Lit.int .i64 x).wf = true) (w2 : SlB w w.heap.size A2 n2 c2 bs2) (y2 : c2 ≤ 140737488351232) (hok : ¬ okPut k x) (hs : sz k) (hk : k ≤ n2) :
    Calls Try.prog 9 #[.int .i64 k, .int .i64 x, .slice A2 n2 c2] w fun e w' => e = .returned (.bool true) ∧ Below w.heap.size w w' := by
  have HW := Lib.hid hx
  have HK := Lib.hid hok
  have hn2 : n2 ≤ 140737488351232 := Nat.le_trans w2.le y2
  have hk8 : k ≤ 8 := by have := hs; unfold sz at this; omega
  have HS := Lib.hid hs
  have hkI : (k : Int) ≤ (n2 : Int) := by omega
  clear hs
  have H2 := Lib.hid w2
  clear hx hok w2
  go_enter Try.func9, Try.ntmps9
  go_wp2_with fail
  refine (put_good (SlB.nil w w.heap.size none) (Nat.le_refl _) (by omega) (-1) wfm1 okm1).mono ?_
  rintro e w1 ⟨A1, c1, rfl, ho1, hb1⟩
  have hz1 := hb1.size
  have hc8 : 8 ≤ c1 := ho1.2.1
  obtain ⟨g1, o1, rfl, _, hj1⟩ := ho1.sl.at_ (by omega)
  have hcell : w1.cell? ⟨g1, o1 + 7, none⟩ = some (.int .u8 255) := hj1 7 255 last255
  have hcm1 : c1 ≤ 9223372036854775807 := ho1.2.2.1
  clear ho1 hj1
  go_wp2_with fail
  refine (put_bad x HK.out).mono ?_
  rintro e w3 ⟨rfl, rfl⟩
  go_wp2_with fail
  refine (take_ok (H2.out.below hb1) (by have := (hb1).size; omega) (by omega) HS.out hk).mono ?_
  rintro e w6 ⟨A6, c6, rfl, ho6, hb6⟩
  have hb6w := (hb1).trans (hb6.mono (hb1).size)
  have HO6 := Lib.hid ho6
  have hlt : (bs2.take k).length = k := by rw [List.length_take, H2.out.len]; omega
  have HLT := Lib.hid hlt
  clear ho6 hlt
  go_wp2_with fail
  refine (put_good (SlB.nil w6 w6.heap.size none) (Nat.le_refl _) (by omega) _ (i64v_wf _) (back_ok HS.out _ HLT.out)).mono ?_
  rintro e w7 ⟨A7, c7, rfl, ho7, hb7⟩
  have hb7w := hb6w.trans (hb7.mono hb6w.size)
  have hnum : numB (i64v (bigN (bs2.take k))) k k = bs2.take k := by
    have := back_bytes (bs2.take k) (by rw [HLT.out]; exact hk8)
    rwa [HLT.out] at this
  simp only [List.nil_append, Nat.zero_add, hnum] at ho7
  have HO7 := Lib.hid ho7
  have h67 := (HO6.out.below hb7).sl
  have HH67 := Lib.hid h67
  clear ho7 hnum h67
  go_wp2_with (at_builtin; refine wpList_append8W rfl (.tmp 84) (.tmp 85) rfl rfl HO7.out rfl HH67.out (by omega) hb7.size n2 (by omega) ?_; intro A8 c8 w8 h8 q8; have hb8 : Below w.heap.size w w8 := q8.below HO7.out hb7w hb6w.size hb7w.size)
  refine (same_c h8.sl (H2.out.below hb8) true (by simp)).mono ?_
  rintro e w9 ⟨rfl, rfl⟩
  go_wp2_with fail
  go_ret
  exact ⟨rfl, hb8⟩

set_option maxHeartbeats 1000000 in
theorem walk00 (s : Int) (x : Int) (A2 : Option Addr) (n2 c2 : Nat) (bs2 : List UInt8) (w : World) (hx : (Lit.int .i64 x).wf = true) (w2 : SlB w w.heap.size A2 n2 c2 bs2) (y2 : c2 ≤ 140737488351232) (hok : ¬ okPut s x) (hb' : ∀ W : World, Calls Try.prog 18 #[.slice A2 n2 c2, .int .i64 s] W fun e w' => e = .returned (.tuple #[.int .i64 0, .slice none 0 0, .iface 33 (.int .i64 2)]) ∧ W = w') :
    Calls Try.prog 9 #[.int .i64 s, .int .i64 x, .slice A2 n2 c2] w fun e w' => e = .returned (.bool true) ∧ Below w.heap.size w w' := by
  have HW := Lib.hid hx
  have HK := Lib.hid hok
  have hn2 : n2 ≤ 140737488351232 := Nat.le_trans w2.le y2
  have hpe := putErr_ne s
  have HT := Lib.hid hb'
  clear hb'
  have H2 := Lib.hid w2
  clear hx hok w2
  go_enter Try.func9, Try.ntmps9
  go_wp2_with fail
  refine (put_good (SlB.nil w w.heap.size none) (Nat.le_refl _) (by omega) (-1) wfm1 okm1).mono ?_
  rintro e w1 ⟨A1, c1, rfl, ho1, hb1⟩
  have hz1 := hb1.size
  have hc8 : 8 ≤ c1 := ho1.2.1
  obtain ⟨g1, o1, rfl, _, hj1⟩ := ho1.sl.at_ (by omega)
  have hcell : w1.cell? ⟨g1, o1 + 7, none⟩ = some (.int .u8 255) := hj1 7 255 last255
  have hcm1 : c1 ≤ 9223372036854775807 := ho1.2.2.1
  clear ho1 hj1
  go_wp2_with fail
  refine (put_bad x HK.out).mono ?_
  rintro e w3 ⟨rfl, rfl⟩
  go_wp2_with fail
  refine (HT.out _).mono ?_
  rintro e w6 ⟨rfl, rfl⟩
  go_wp2_with fail
  go_ret
  exact ⟨rfl, hb1⟩

theorem walk (a0 : Int) (a1 : Int) (A2 : Option Addr) (n2 c2 : Nat) (bs2 : List UInt8) (w : World) (w0 : (Lit.int .i64 a0).wf = true) (w1 : (Lit.int .i64 a1).wf = true) (w2 : SlB w w.heap.size A2 n2 c2 bs2) (y2 : c2 ≤ 140737488351232) :
    Calls Try.prog 9 #[.int .i64 a0, .int .i64 a1, .slice A2 n2 c2] w fun e w' => e = .returned (.bool true) ∧ Below w.heap.size w w' := by
  by_cases hs : sz a0
  · obtain ⟨k, rfl⟩ : ∃ k : Nat, a0 = (k : Int) := ⟨a0.toNat, by unfold sz at hs; omega⟩
    by_cases hk : k ≤ n2
    · by_cases hok : okPut k a1
      · exact walk11 k a1 A2 n2 c2 bs2 w w1 w2 y2 hok hs hk
      · exact walk01 k a1 A2 n2 c2 bs2 w w1 w2 y2 hok hs hk
    · have hb' : ∀ W : World, Calls Try.prog 18 #[.slice A2 n2 c2, .int .i64 k] W fun e w' => e = .returned (.tuple #[.int .i64 0, .slice none 0 0, .iface 33 (.int .i64 2)]) ∧ W = w' := fun W => take_bad2 hs (by omega)
      by_cases hok : okPut k a1
      · exact walk10 k a1 A2 n2 c2 bs2 w w1 w2 y2 hok hb'
      · exact walk00 k a1 A2 n2 c2 bs2 w w1 w2 y2 hok hb'
  · exact walk00 a0 a1 A2 n2 c2 bs2 w w1 w2 y2 (fun h => hs h.1) fun W => take_bad1 hs
end Go.Proofs.Ytjceikdkgghohaa.wordsBack
