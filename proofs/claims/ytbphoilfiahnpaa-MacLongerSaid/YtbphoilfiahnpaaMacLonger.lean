/-
  MacLonger: what is derived of less bytes begins what is derived of more.
-/
import Derived.Test.YtbphoilfiahnpaaDerive
import Derived.Test.YtbphoilfiahnpaaShape
namespace Go.Proofs.Ytbphoilfiahnpaa.macLonger
open Go.RowKit
set_option linter.unusedVariables false
set_option linter.unusedSimpArgs false
set_option maxRecDepth 100000

theorem longer {N M : Nat} (key lab : List UInt8) (h : N ≤ M) : (derived key lab M).take N = derived key lab N := by
  rw [derived, derived, List.take_take, Nat.min_eq_left h]
theorem wrap_u64_nn (x : Int) : 0 ≤ IntKind.u64.wrap x := by rw [wrap_u64]; omega

set_option maxHeartbeats 2000000 in
theorem begins_c {w : World} {A0 : Option Addr} {n0 c0 : Nat} {bs0 : List UInt8} (w0 : SlB w w.heap.size A0 n0 c0 bs0) (y0 : c0 ≤ 140737488351232) (a1 : ByteArray) (y1 : a1.size ≤ 140737488351232) (a2 a3 : Int) :
    Calls Try.prog 50 #[.slice A0 n0 c0, .string a1, .int .i64 a2, .int .i64 a3] w fun e w' => e = .returned (.bool true) ∧ Below w.heap.size w w' := by
  have hnb0 : n0 ≤ 140737488351232 := Nat.le_trans w0.le y0
  obtain ⟨cs, v3, hrun, hs3, hb3⟩ := conv_str a1 (by omega) w
  have hz3 := hb3.size
  have hk3 := (w0.below hb3).more hz3
  have hal := below_alloc v3 (.cells #[.slice A0 n0 c0, .slice (some ⟨w.heap.size, 0, none⟩) a1.size cs] 31)
  have hb4 := hb3.trans (hal.mono hz3)
  by_cases hbig : 4096 < n0 + a1.size
  · go_enter Try.func50, Try.ntmps50
    go_wp2_with (go_at_call 38; refine (large2_c hk3 hs3 true (decide_eq_true hbig) hnb0 (by omega)).mono ?_; rintro e w3 ⟨rfl, rfl⟩)
    go_ret
    exact ⟨rfl, hb4⟩
  · have hlarge := large2_c hk3 hs3 false (decide_eq_false hbig) hnb0 (by omega)
    obtain ⟨v4, hv4⟩ : ∃ v4, v4 = v3.alloc (.cells #[.slice A0 n0 c0, .slice (some ⟨w.heap.size, 0, none⟩) a1.size cs] 31) := ⟨_, rfl⟩
    rw [← hv4] at hb4 hlarge
    have HV := Lib.hid hv4
    have W0 := Lib.hid w0
    have hz4 := hb4.size
    clear hv4 hal hk3 hs3
    obtain ⟨u, hu⟩ : ∃ u : Nat, IntKind.u64.wrap a2 = (u : Int) := ⟨(IntKind.u64.wrap a2).toNat, by rw [Int.toNat_of_nonneg (wrap_u64_nn _)]⟩
    obtain ⟨kk, hkk⟩ : ∃ kk : Nat, kk = u % 300 := ⟨_, rfl⟩
    obtain ⟨N, hN⟩ : ∃ N : Nat, N = 1 + kk := ⟨_, rfl⟩
    have htm : ((u : Int)).tmod 300 = (kk : Int) := by rw [Int.tmod_eq_emod_of_nonneg (by omega)]; omega
    have hmd : (u : Int) % 300 = (kk : Int) := by omega
    have hNi : 1 + (kk : Int) = (N : Int) := by omega
    obtain ⟨u', hu'⟩ : ∃ u : Nat, IntKind.u64.wrap a3 = (u : Int) := ⟨(IntKind.u64.wrap a3).toNat, by rw [Int.toNat_of_nonneg (wrap_u64_nn _)]⟩
    obtain ⟨kk', hkk'⟩ : ∃ kk : Nat, kk = u' % 100 := ⟨_, rfl⟩
    obtain ⟨M, hM⟩ : ∃ M : Nat, M = N + kk' := ⟨_, rfl⟩
    have htm' : ((u' : Int)).tmod 100 = (kk' : Int) := by rw [Int.tmod_eq_emod_of_nonneg (by omega)]; omega
    have hmd' : (u' : Int) % 100 = (kk' : Int) := by omega
    have hMi : (N : Int) + (kk' : Int) = (M : Int) := by omega
    have hk : (kk : Int) < 300 := by omega
    have hk' : (kk' : Int) < 100 := by omega
    have hk0 : (0 : Int) ≤ (kk : Int) := by omega
    have hk0' : (0 : Int) ≤ (kk' : Int) := by omega
    have hN1 : 1 ≤ N := by omega
    have hN2 : N ≤ 300 := by omega
    have hM1 : N ≤ M := by omega
    have hM2 : M ≤ 400 := by omega
    have hNi1 : (1 : Int) ≤ (N : Int) := by omega
    have hNi2 : (N : Int) ≤ 300 := by omega
    have hMi1 : (N : Int) ≤ (M : Int) := by omega
    have hMi2 : (M : Int) ≤ 400 := by omega
    clear hN hM hkk hkk'
    go_enter Try.func50, Try.ntmps50
    go_wp2_with (first
      | (go_at_call 38; rw [← HV.out]; refine hlarge.mono ?_; rintro e w2 ⟨rfl, rfl⟩)
      | (go_at_call 47; (with_reducible show Calls _ _ #[.slice A0 n0 c0, .string a1, .int .i64 (N : Int)] v4 _); refine (derive_c (W0.out.below hb4) hz4 (by omega) a1 (by omega) N hN1 (by omega)).mono ?_; rintro e v5 ⟨A5, rfl, ho5, hb5⟩; have h05 := hb4.trans (hb5.mono hz4); have hz5 := h05.size)
      | (go_at_call 47; (with_reducible show Calls _ _ #[.slice A0 n0 c0, .string a1, .int .i64 (M : Int)] v5 _); refine (derive_c (W0.out.below h05) hz5 (by omega) a1 (by omega) M (by omega) (by omega)).mono ?_; rintro e v6 ⟨A6, rfl, ho6, hb6⟩; have h06 := h05.trans (hb6.mono hz5); have hz6 := h06.size; have ho56 := ho5.below hb6)
      | (go_at_call 26; refine (same_c ho56.sl (ho6.sl.trim (k := N) hM1) true (by rw [longer _ _ hM1]; simp)).mono ?_; rintro e v8 ⟨rfl, rfl⟩))
    go_ret
    exact ⟨rfl, h06⟩

set_option maxHeartbeats 1000000 in
theorem walk (cs0 : List Value) (w : World) (R0 : Rds w (.cons (.slice (.int .u8) 1 1) (.cons .str (.cons (.int .i64) (.cons (.int .i64) .nil)))) cs0) :
    Calls Try.prog 19 #[.agg cs0.toArray] w fun e w' => e = .returned (.bool true) ∧ Below w.heap.size w w' := by
  obtain ⟨_, _, rfl, r0, _, _, rfl, r1, _, _, rfl, r2, _, _, rfl, r3, rfl⟩ := R0
  obtain ⟨A0, n0, c0, key, rfl, w0, y0⟩ := Rds.bytes r0
  obtain ⟨a1, rfl, y1⟩ := r1
  obtain ⟨a2, rfl, hx2⟩ := r2
  obtain ⟨a3, rfl, hx3⟩ := r3
  have hb := below_alloc w (.cells #[.slice A0 n0 c0, .string a1, .int .i64 a2, .int .i64 a3] 70)
  have k0 := (w0.below hb).more hb.size
  have h := begins_c k0 y0 a1 y1 a2 a3
  clear w0 r0 k0
  go_enter Try.func19, Try.ntmps19
  go_wp2_with (go_at_call 50; refine h.mono ?_; rintro e v ⟨rfl, hb1⟩)
  go_ret
  exact ⟨rfl, hb.trans (hb1.mono hb.size)⟩
end Go.Proofs.Ytbphoilfiahnpaa.macLonger
