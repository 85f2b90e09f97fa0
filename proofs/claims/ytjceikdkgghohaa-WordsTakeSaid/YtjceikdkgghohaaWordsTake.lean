/-
  WordsTake: which number any bytes begin with.
-/
import Derived.Test.YtjceikdkgghohaaRef08
import Derived.Test.YtjceikdkgghohaaApart2
namespace Go.Proofs.Ytjceikdkgghohaa.wordsTake
open Go.RowKit
set_option linter.unusedVariables false
set_option maxRecDepth 100000

theorem three : i64v (bigN (List.take 2 [1, 44, 9])) = 300 := by decide

set_option maxHeartbeats 1000000 in
theorem walk_bad (A0 : Option Addr) (n0 c0 : Nat) (bs0 : List UInt8) (a1 : Int) (w : World) (w0 : SlB w w.heap.size A0 n0 c0 bs0) (y0 : c0 ≤ 140737488351232) (hbad : ¬ sz a1 ∨ (sz a1 ∧ (n0 : Int) < a1)) :
    Calls Try.prog 5 #[.slice A0 n0 c0, .int .i64 a1] w fun e w' => e = .returned (.bool true) ∧ Below w.heap.size w w' := by
  have hb1' : ∀ (W : World) (A : Option Addr) (c : Nat), Calls Try.prog 18 #[.slice A n0 c, .int .i64 a1] W fun e w' => e = .returned (.tuple #[.int .i64 0, .slice none 0 0, .iface 33 (.int .i64 2)]) ∧ W = w' := fun W A c => by
    rcases hbad with h | ⟨h, h'⟩
    · exact take_bad1 h
    · exact take_bad2 h h'
  have hr1' : ∀ (W : World) (A : Option Addr) (c : Nat), Calls Try.prog 20 #[.slice A n0 c, .int .i64 a1] W fun e w' => e = .returned (.tuple #[.int .i64 0, .bool false]) ∧ W = w' := fun W A c => by
    rcases hbad with h | ⟨h, h'⟩
    · exact ref_take_bad1 h
    · exact ref_take_bad2 h h'
  have HT := Lib.hid hb1'
  have HR := Lib.hid hr1'
  have hn : n0 ≤ 140737488351232 := Nat.le_trans w0.le y0
  clear hb1' hr1' hbad
  go_enter Try.func5, Try.ntmps5
  go_wp2_with fail
  refine (take_ok (k := 2) (SlB.new w _ [1, 44, 9] 3 (Nat.lt_succ_self _) rfl (by simp [maxLen]) rfl) (by simp) (by omega) (by simp [sz]) (by omega)).mono ?_
  rintro e w1 ⟨A1, c1, rfl, h1, hb1⟩
  rw [three]
  have hb1w : Below w.heap.size w w1 := ((Below.refl _ _).alloc (Nat.le_refl _) _).trans (hb1.mono (by simp))
  have hz1 := hb1w.size
  clear h1
  go_wp2_with fail
  refine (copy_c (w0.below hb1w) hz1 hn).mono ?_
  rintro e w2 ⟨rfl, ho2, hb2⟩
  have hb2w := hb1w.trans (hb2.mono hz1)
  go_wp2_with fail
  refine (HT.out _ _ _).mono ?_
  rintro e w3 ⟨rfl, rfl⟩
  go_wp2_with fail
  refine (HR.out _ _ _).mono ?_
  rintro e w4 ⟨rfl, rfl⟩
  go_wp2_with fail
  refine (kept_c ho2.sl (w0.below hb2w) hn).mono ?_
  rintro e w5 ⟨rfl, rfl⟩
  go_wp2_with (go_at_call 17; refine (is_err 2 2 rfl true rfl _).mono ?_; rintro e w5 ⟨rfl, rfl⟩)
  go_ret
  exact ⟨rfl, hb2w⟩

set_option maxHeartbeats 1000000 in
theorem walk_ok (A0 : Option Addr) (n0 c0 : Nat) (bs0 : List UInt8) (k : Nat) (w : World) (w0 : SlB w w.heap.size A0 n0 c0 bs0) (y0 : c0 ≤ 140737488351232) (hs : sz k) (hk : k ≤ n0) :
    Calls Try.prog 5 #[.slice A0 n0 c0, .int .i64 k] w fun e w' => e = .returned (.bool true) ∧ Below w.heap.size w w' := by
  have hn : n0 ≤ 140737488351232 := Nat.le_trans w0.le y0
  have hkn : (k : Int) ≤ (n0 : Int) := by omega
  have hnc := w0.le
  have HS := Lib.hid hs
  have hk0 : 0 < k := by unfold sz at hs; omega
  clear hs
  have H0 := Lib.hid w0
  obtain ⟨A9, ht9, hsl9⟩ := w0.tailRun hk
  have HT9 := Lib.hid ht9
  clear w0 ht9
  go_enter Try.func5, Try.ntmps5
  go_wp2_with fail
  refine (take_ok (k := 2) (SlB.new w _ [1, 44, 9] 3 (Nat.lt_succ_self _) rfl (by simp [maxLen]) rfl) (by simp) (by omega) (by simp [sz]) (by omega)).mono ?_
  rintro e w1 ⟨A1, c1, rfl, h1, hb1⟩
  rw [three]
  have hb1w : Below w.heap.size w w1 := ((Below.refl _ _).alloc (Nat.le_refl _) _).trans (hb1.mono (by simp))
  have hz1 := hb1w.size
  clear h1
  go_wp2_with fail
  refine (copy_c (H0.out.below hb1w) hz1 hn).mono ?_
  rintro e w2 ⟨rfl, ho2, hb2⟩
  have hb2w := hb1w.trans (hb2.mono hz1)
  have hz2 := hb2.size
  have hz12 : w1.heap.size < w2.heap.size := by
    obtain ⟨b, off, e1, e2, _⟩ := ho2.sl.at_ (by omega)
    simp only [Option.some.injEq, Addr.mk.injEq, and_true] at e1
    omega
  have HO2 := Lib.hid ho2
  have HC2 : SlB w2 w2.heap.size (some ⟨w1.heap.size, 0, none⟩) n0 (n0 + 2) bs0 := by
    have := ho2.sl.trim (k := n0) (by omega)
    rwa [List.take_left' H0.out.len] at this
  clear ho2
  go_wp2_with fail
  refine (take_ok HC2 (Nat.le_refl _) (by omega) HS.out hk).mono ?_
  rintro e w3 ⟨A3, c3, rfl, ho3, hb3⟩
  have hb3w := hb2w.trans (hb3.mono hb2w.size)
  clear HC2
  have HO3 := Lib.hid ho3
  clear ho3
  go_wp2_with fail
  refine (ref_take_ok (H0.out.below hb3w) HS.out hk).mono ?_
  rintro e w4 ⟨rfl, rfl⟩
  go_wp2_with fail
  refine (kept_c (HO2.out.below hb3).sl (H0.out.below hb3w) hn).mono ?_
  rintro e w5 ⟨rfl, rfl⟩
  go_wp2_with fail
  refine (same_c HO3.out.sl (HT9.out.below hb3w) true (by simp)).mono ?_
  rintro e w6 ⟨rfl, rfl⟩
  go_wp2_with fail
  have hoc : OwB w3 w.heap.size (some ⟨w1.heap.size, 0, none⟩) n0 (n0 + 2) bs0 := by
    have h := (((HO2.out.below hb3).base_le hz1).trim (k := n0) (by omega))
    rwa [← List.map_take, Nat.mul_one, List.take_left' H0.out.len] at h
  refine (apart2_c (base := w.heap.size) (HO3.out.base_le hb2w.size) hoc (by omega) (by omega) hb3w.size (far_of_base HO3.out fun g hg => ?_)).mono ?_
  · rw [wrote, if_neg (by omega)] at hg
    simp at hg
    omega
  · rintro e w7 ⟨rfl, hb7⟩
    go_wp2_with fail
    go_ret
    exact ⟨rfl, (hb3w.alloc hb3w.size _).trans hb7⟩

theorem walk (A0 : Option Addr) (n0 c0 : Nat) (bs0 : List UInt8) (a1 : Int) (w : World) (w0 : SlB w w.heap.size A0 n0 c0 bs0) (y0 : c0 ≤ 140737488351232) (w1 : (Lit.int .i64 a1).wf = true) :
    Calls Try.prog 5 #[.slice A0 n0 c0, .int .i64 a1] w fun e w' => e = .returned (.bool true) ∧ Below w.heap.size w w' := by
  by_cases hs : sz a1
  · obtain ⟨k, rfl⟩ : ∃ k : Nat, a1 = (k : Int) := ⟨a1.toNat, by unfold sz at hs; omega⟩
    by_cases hk : k ≤ n0
    · exact walk_ok A0 n0 c0 bs0 k w w0 y0 hs hk
    · exact walk_bad A0 n0 c0 bs0 k w w0 y0 (.inr ⟨hs, by omega⟩)
  · exact walk_bad A0 n0 c0 bs0 a1 w w0 y0 (.inl hs)
end Go.Proofs.Ytjceikdkgghohaa.wordsTake
