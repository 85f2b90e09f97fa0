/-
  ChapGoes: fresh bytes go on where they ended.
-/
import Derived.Test.YtbjiokjmidipaaaFresh
import Derived.Test.YtbjiokjmidipaaaNum
namespace Go.Proofs.Ytbjiokjmidipaaa.chapGoes
open Go.RowKit
set_option linter.unusedVariables false
set_option linter.unusedSimpArgs false
set_option maxRecDepth 100000

theorem wrap_u64_nn (x : Int) : 0 ≤ IntKind.u64.wrap x := by rw [wrap_u64]; omega
theorem behind_whole (fr : Int) (k : Nat) : behindOf fr (32 * k) = nth fr k := by rw [behindOf, show (32 * k + 31) / 32 = k by omega]
theorem fresh_whole (seed fr : Int) {k : Nat} (h : 32 * k ≤ 4096) : freshOf seed fr (32 * k) = drawsB seed fr k := by
  rw [← freshOf_of seed fr (k := k) (Nat.le_refl _) h, List.take_of_length_le (by rw [len_drawsB]; omega)]
theorem fresh_add (seed fr : Int) {k s : Nat} (h : 32 * k + s ≤ 4096) : freshOf seed fr (32 * k) ++ freshOf seed (nth fr k) s = freshOf seed fr (32 * k + s) := by
  rw [fresh_whole _ _ (by omega), ← freshOf_of seed fr (k := k + 128) (by omega) h, drawsB_add, List.take_append, len_drawsB, show 32 * k + s - 32 * k = s by omega, List.take_of_length_le (by rw [len_drawsB]; omega)]
  rfl

set_option maxHeartbeats 2000000 in
theorem goes_c (a0 a1 a2 a3 : Int) (w : World) :
    Calls Try.prog 47 #[.int .i64 a0, .int .i64 a1, .int .i64 a2, .int .i64 a3] w fun e w' => e = .returned (.bool true) ∧ Below w.heap.size w w' := by
  obtain ⟨u, hu⟩ : ∃ u : Nat, IntKind.u64.wrap a2 = (u : Int) := ⟨(IntKind.u64.wrap a2).toNat, by rw [Int.toNat_of_nonneg (wrap_u64_nn _)]⟩
  obtain ⟨kk, hkk⟩ : ∃ kk : Nat, kk = u % 6 := ⟨_, rfl⟩
  obtain ⟨K, hK⟩ : ∃ K : Nat, K = 1 + kk := ⟨_, rfl⟩
  obtain ⟨N, hN⟩ : ∃ N : Nat, N = 32 * K := ⟨_, rfl⟩
  have htm : ((u : Int)).tmod 6 = (kk : Int) := by rw [Int.tmod_eq_emod_of_nonneg (by omega)]; omega
  have hmd : (u : Int) % 6 = (kk : Int) := by omega
  have hKi : 1 + (kk : Int) = (K : Int) := by omega
  have hNi : 32 * (K : Int) = (N : Int) := by omega
  obtain ⟨u', hu'⟩ : ∃ u : Nat, IntKind.u64.wrap a3 = (u : Int) := ⟨(IntKind.u64.wrap a3).toNat, by rw [Int.toNat_of_nonneg (wrap_u64_nn _)]⟩
  obtain ⟨kk', hkk'⟩ : ∃ kk : Nat, kk = u' % 200 := ⟨_, rfl⟩
  obtain ⟨M, hM⟩ : ∃ M : Nat, M = 1 + kk' := ⟨_, rfl⟩
  obtain ⟨T, hT⟩ : ∃ T : Nat, T = N + M := ⟨_, rfl⟩
  have htm' : ((u' : Int)).tmod 200 = (kk' : Int) := by rw [Int.tmod_eq_emod_of_nonneg (by omega)]; omega
  have hmd' : (u' : Int) % 200 = (kk' : Int) := by omega
  have hMi : 1 + (kk' : Int) = (M : Int) := by omega
  have hTi : (N : Int) + (M : Int) = (T : Int) := by omega
  have hk : (kk : Int) < 6 := by omega
  have hk' : (kk' : Int) < 200 := by omega
  have hk0 : (0 : Int) ≤ (kk : Int) := by omega
  have hk0' : (0 : Int) ≤ (kk' : Int) := by omega
  have hN1 : 1 ≤ N := by omega
  have hN2 : N ≤ 192 := by omega
  have hM1 : 1 ≤ M := by omega
  have hM2 : M ≤ 200 := by omega
  have hK6 : (K : Int) ≤ 6 := by omega
  have hKi1 : (1 : Int) ≤ (K : Int) := by omega
  have hNi1 : (1 : Int) ≤ (N : Int) := by omega
  have hNi2 : (N : Int) ≤ 192 := by omega
  have hMi1 : (1 : Int) ≤ (M : Int) := by omega
  have hMi2 : (M : Int) ≤ 200 := by omega
  have hT1 : 1 ≤ T := by omega
  have hT2 : T ≤ 4096 := by omega
  have hbe : behindOf a1 N = nth a1 K := by rw [hN, behind_whole]
  have had : freshOf a0 a1 N ++ freshOf a0 (nth a1 K) M = freshOf a0 a1 T := by
    rw [hT, hN]; exact fresh_add a0 a1 (by omega)
  have HT := Lib.hid hT
  clear hN hM hK hT hkk hkk'
  go_enter Try.func47, Try.ntmps47
  go_wp2_with (first
    | (go_at_call 44; (with_reducible show Calls _ _ #[.int .i64 a0, .int .i64 a1, .int .i64 (N : Int)] w _); refine (fresh_c a0 a1 N hN1 (by omega) w).mono ?_; rintro e v1 ⟨A1, rfl, ho1, hb1⟩; rw [hbe]; have hz1 := hb1.size)
    | (go_at_call 44; (with_reducible show Calls _ _ _ v1 _); refine (fresh_c a0 (nth a1 K) M hM1 (by omega) v1).mono ?_; rintro e v2 ⟨A2, rfl, ho2, hb2⟩; have h02 := hb1.trans (hb2.mono hz1); have ho12 := ho1.below hb2; have hz2 := h02.size)
    | (go_at_call 44; (with_reducible show Calls _ _ _ v2 _); refine (fresh_c a0 a1 T hT1 hT2 v2).mono ?_; rintro e v3 ⟨A3, rfl, ho3, hb3⟩; have h03 := h02.trans (hb3.mono hz2); have ho13 := ho12.below hb3; have ho23 := ho2.below hb3; have hz3 := h03.size; have hal := below_alloc v3 (.cells #[] 5); have n3 : OwB (v3.alloc (.cells #[] 5)) v3.heap.size (some ⟨v3.heap.size, 0, none⟩) 0 0 [] := OwB.nil _ _ _; have s1 := (ho13.alloc (.cells #[] 5)).sl; have o24 := ho23.alloc (.cells #[] 5); have o34 := ho3.alloc (.cells #[] 5))
    | (at_builtin; (with_reducible show wpList _ _ _ (Oper.mk (some 62) _ _ _ _ _ :: _) _ _); refine wpList_append8W rfl (.tmp 60) (.tmp 61) rfl rfl n3 rfl s1 (by omega) (by simp) N (by omega) ?_; intro A5 c5 v5 h5 q5; have hb5 := q5.below n3 hal (Nat.le_refl _) (by simp); have o25 := (ho23.below hb5).sl)
    | (at_builtin; (with_reducible show wpList _ _ _ (Oper.mk (some 64) _ _ _ _ _ :: _) _ _); refine wpList_append8W rfl (.tmp 62) (.tmp 63) rfl rfl h5 rfl o25 (by omega) hb5.size T HT.out.symm ?_; intro A6 c6 v6 h6 q6; have hb6 := q6.below h5 hb5 (Nat.le_refl _) hb5.size; have o36 := (ho3.below hb6).sl)
    | (go_at_call 40; refine (same_c h6.sl o36 true (by rw [List.nil_append, had]; simp)).mono ?_; rintro e v8 ⟨rfl, rfl⟩))
  go_ret
  exact ⟨rfl, h03.trans (hb6.mono hz3)⟩

set_option maxHeartbeats 1000000 in
theorem walk (cs0 : List Value) (w : World) (R0 : Rds w (.cons (.int .i64) (.cons (.int .i64) (.cons (.int .i64) (.cons (.int .i64) .nil)))) cs0) :
    Calls Try.prog 16 #[.agg cs0.toArray] w fun e w' => e = .returned (.bool true) ∧ Below w.heap.size w w' := by
  obtain ⟨_, _, rfl, r0, _, _, rfl, r1, _, _, rfl, r2, _, _, rfl, r3, rfl⟩ := R0
  obtain ⟨a0, rfl, hx0⟩ := r0
  obtain ⟨a1, rfl, hx1⟩ := r1
  obtain ⟨a2, rfl, hx2⟩ := r2
  obtain ⟨a3, rfl, hx3⟩ := r3
  have hb := below_alloc w (.cells #[.int .i64 a0, .int .i64 a1, .int .i64 a2, .int .i64 a3] 84)
  have h := goes_c a0 a1 a2 a3 (w.alloc (.cells #[.int .i64 a0, .int .i64 a1, .int .i64 a2, .int .i64 a3] 84))
  go_enter Try.func16, Try.ntmps16
  go_wp2_with (go_at_call 47; refine h.mono ?_; rintro e v ⟨rfl, hb1⟩)
  go_ret
  exact ⟨rfl, hb.trans (hb1.mono hb.size)⟩
end Go.Proofs.Ytbjiokjmidipaaa.chapGoes
