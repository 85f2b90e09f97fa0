/-
  DigestConstants: what the constants and the beginning are.
-/
import Derived.Test.YtbphoilfiahnpaaRefConst
import Derived.Test.YtbphoilfiahnpaaDigestTake
import Derived.Test.YtbphoilfiahnpaaRelB
namespace Go.Proofs.Ytbphoilfiahnpaa.digestConstants
open Go.RowKit
set_option linter.unusedVariables false
set_option linter.unusedSimpArgs false
set_option maxRecDepth 100000

theorem guard24 : Try.prog.eqGuardType Try.prog.depth 24 = false := by kernel_rfl
theorem eq24 (xs : List UInt32) (hx : xs.length = 64) (w : World) : (Op.equalIn 10000 24 (.agg (arr32 xs)) (.agg (arr32 xs))).run Try.prog w = .ok true w := by
  rw [run_equalIn_arr32 w _ _ 64 Try.underlying24 Try.underlying23 size4 xs xs hx hx]
  simp
theorem guard26 : Try.prog.eqGuardType Try.prog.depth 26 = false := by kernel_rfl
theorem eq26 (xs : List UInt32) (hx : xs.length = 8) (w : World) : (Op.equalIn 10000 26 (.agg (arr32 xs)) (.agg (arr32 xs))).run Try.prog w = .ok true w := by
  rw [run_equalIn_arr32 w _ _ 8 Try.underlying26 Try.underlying23 size4 xs xs hx hx]
  simp
theorem wrap_u64_nn (x : Int) : 0 ≤ IntKind.u64.wrap x := by rw [wrap_u64]; omega
theorem none0 : ∀ x ∈ K64, x ≠ 0 := by decide +kernel

set_option maxHeartbeats 2000000 in
theorem walk (a0 : Int) (w : World) (w0 : (Lit.int .i64 a0).wf = true) :
    Calls Try.prog 3 #[.int .i64 a0] w fun e w' => e = .returned (.bool true) ∧ Below w.heap.size w w' := by
  obtain ⟨u, hu⟩ : ∃ u : Nat, IntKind.u64.wrap a0 = (u : Int) := ⟨(IntKind.u64.wrap a0).toNat, by rw [Int.toNat_of_nonneg (wrap_u64_nn _)]⟩
  obtain ⟨k, hkk⟩ : ∃ kk : Nat, kk = u % 64 := ⟨_, rfl⟩
  have htm : ((u : Int)).tmod 64 = (k : Int) := by rw [Int.tmod_eq_emod_of_nonneg (by omega)]; omega
  have hmd : (u : Int) % 64 = (k : Int) := by omega
  have hk64 : k < 64 := by omega
  have hki : (k : Int) < 64 := by omega
  have hk0 : (0 : Int) ≤ (k : Int) := by omega
  clear hkk
  go_enter Try.func3, Try.ntmps3
  go_wp2_with (first
    | (go_at_call 20; refine (constants_c _).mono ?_; rintro e w1 ⟨rfl, hb1⟩; have b1 := Blk.new w1 24 (arr32 (z32 64)))
    | (go_at_call 21; refine (digestTake.table_c _).mono ?_; rintro e w3 ⟨rfl, hb3⟩; have h23 := hb3; have b3 := (Blk.new w3 24 (arr32 (z32 64))).alloc (.cells (arr32 (z32 8)) 26); have b4 := Blk.new (w3.alloc (.cells (arr32 (z32 64)) 24)) 26 (arr32 (z32 8)); rw [World.size_alloc] at b4)
    | ((with_reducible show wpList _ _ _ (Oper.mk _ (Op.alloc 24) _ _ _ _ :: _) _ _); refine wpList_alloc_agg rfl 24 rfl (arr32 (z32 64)) zero24 ?_; (try rw [World.size_alloc]))
    | ((with_reducible show wpList _ _ _ (Oper.mk _ (Op.alloc 26) _ _ _ _ :: _) _ _); refine wpList_alloc_agg rfl 26 rfl (arr32 (z32 8)) zero26 ?_; (try rw [World.size_alloc]))
    | ((with_reducible show wpList _ _ _ (Oper.mk none (Op.store 24 (.tmp 4) _) _ _ _ _ :: _) _ _); refine wpList_store32 rfl 24 (.tmp 4) (.tmp 11) rfl w1.heap.size rfl K64 rfl agg24 len_K64 _ _ b1 (by rw [size_arr32, len_z32]) ?_; intro w2 hb2 hg2 hs2)
    | ((with_reducible show wpList _ _ _ (Oper.mk none (Op.store 24 (.tmp 5) _) _ _ _ _ :: _) _ _); refine wpList_store32 rfl 24 (.tmp 5) (.tmp 14) rfl w3.heap.size rfl K64 rfl agg24 len_K64 _ _ b3 (by rw [size_arr32, len_z32]) ?_; intro w5 hb5 hg5 hs5; have b4' := b4.grown hg5 (by simp))
    | ((with_reducible show wpList _ _ _ (Oper.mk none (Op.store 26 _ _) _ _ _ _ :: _) _ _); refine wpList_store32 rfl 26 (.tmp 6) (.tmp 15) rfl (w3.heap.size + 1) rfl H8 rfl agg26 len_H8 _ _ b4' (by rw [size_arr32, len_z32]) ?_; intro w6 hb6 hg6 hs6; simp only [Act.put, List.setIfInBounds_toArray, List.set_cons_succ, List.set_cons_zero]))
  have K4 : Blk w6 w1.heap.size 24 (arr32 K64) := by
    have h1 := Blk.below hb2 hb3 hb2.lt
    have h2 := h1.lt
    exact (((h1.alloc _).alloc _).grown hg5 (by simp; omega)).grown hg6 (by simp; omega)
  have K5 : Blk w6 w3.heap.size 24 (arr32 K64) := hb5.grown hg6 (by simp)
  have h02 : Below w.heap.size w w2 := (hb1.alloc hb1.size _).grown hg2 (Nat.le_trans hb1.size (by simp)) (fun k hk => by cases hk; exact hb1.size)
  have h03 := h02.trans (hb3.mono h02.size)
  have hz3 := h03.size
  have h06 : Below w.heap.size w w6 := (((h03.alloc hz3 _).alloc (Nat.le_trans hz3 (by simp)) _).grown hg5 (Nat.le_trans hz3 (by simp; omega)) (fun k hk => by cases hk; exact hz3)).grown hg6 (by rw [hs5]; exact Nat.le_trans hz3 (by simp; omega)) (fun k hk => by cases hk; exact Nat.le_trans hz3 (by omega))
  have hz6 := h06.size
  obtain ⟨x, hx⟩ : ∃ x, K64[k]? = some x := ⟨_, List.getElem?_eq_getElem hk64⟩
  have hxn : x.toNat ≠ 0 := fun e => none0 x (List.mem_of_getElem? hx) (UInt32.toNat_inj.1 e)
  have hxb : ((x.toNat : Int) != 0) = true := bne_iff_ne.2 (by omega)
  have HX := Lib.hid hx
  clear b1 b3 b4 b4' hb2 hb3 h23 hg2 hs2 hg5 hs5 hg6 hs6 h02 h03 hz3 hb5 hx hxn htm hmd hu
  refine wp_region_rel (fun W W' => Below W.heap.size W W') (fun W => Below w6.heap.size w6 W)
    [Det (.agg (arr32 K64)), Det (.agg (arr32 K64)), Det (.bool true), Det (.bool true), Det (.agg (arr32 H8)), Det (.agg (arr32 H8)), Det (.bool true), Det (.bool true), Det (.bool true), Det (.int .i64 (k : Int)), Det (.pointer (some ⟨w1.heap.size, k, none⟩)), Det (.int .u32 (x.toNat : Int)), Det (.bool true), Det (.bool true), Det (.bool true), Det (.agg (arr32 K64)), Det (.agg (arr32 K64)), Det (.bool true), Det (.bool true), Det (.bool true), Det (.agg (arr32 H8)), Det (.agg (arr32 H8)), Det (.bool true), Det (.bool true), Det (.bool true)]
    [[], [], [(0, some 16), (1, some 17)], [(2, some 18)], [(3, some 19)], [(3, some 19)], [(4, some 20), (5, some 21), (3, some 19)], [(3, some 19), (6, some 22)], [(7, some 23)], [(8, some 24)], [(9, some 25), (8, some 24)], [(10, some 26), (8, some 24)], [(11, some 27), (8, some 24)], [(8, some 24), (12, some 28)], [(13, some 29)], [(14, some 30)], [(14, some 30)], [(15, some 31), (16, some 32), (14, some 30)], [(14, some 30), (17, some 33)], [(18, some 34)], [(19, some 35)], [(19, some 35)], [(20, some 36), (21, some 37), (19, some 35)], [(19, some 35), (22, some 38)], [(23, some 39)]]
    [[], [], [0, 1], [0, 1, 2], [0, 1, 2, 3], [0, 1, 2, 3, 4], [0, 1, 2, 3, 4, 5], [0, 1, 2, 3, 4, 5, 6], [0, 1, 2, 3, 4, 5, 6, 7], [0, 1, 2, 3, 4, 5, 6, 7, 8], [0, 1, 2, 3, 4, 5, 6, 7, 8, 9], [0, 1, 2, 3, 4, 5, 6, 7, 8, 9, 10], [0, 1, 2, 3, 4, 5, 6, 7, 8, 9, 10, 11], [0, 1, 2, 3, 4, 5, 6, 7, 8, 9, 10, 11, 12], [0, 1, 2, 3, 4, 5, 6, 7, 8, 9, 10, 11, 12, 13], [0, 1, 2, 3, 4, 5, 6, 7, 8, 9, 10, 11, 12, 13, 14], [0, 1, 2, 3, 4, 5, 6, 7, 8, 9, 10, 11, 12, 13, 14], [0, 1, 2, 3, 4, 5, 6, 7, 8, 9, 10, 11, 12, 13, 14, 15, 16], [0, 1, 2, 3, 4, 5, 6, 7, 8, 9, 10, 11, 12, 13, 14, 15, 16, 17], [0, 1, 2, 3, 4, 5, 6, 7, 8, 9, 10, 11, 12, 13, 14, 15, 16, 17, 18], [0, 1, 2, 3, 4, 5, 6, 7, 8, 9, 10, 11, 12, 13, 14, 15, 16, 17, 18, 19], [0, 1, 2, 3, 4, 5, 6, 7, 8, 9, 10, 11, 12, 13, 14, 15, 16, 17, 18, 19], [0, 1, 2, 3, 4, 5, 6, 7, 8, 9, 10, 11, 12, 13, 14, 15, 16, 17, 18, 19, 20, 21], [0, 1, 2, 3, 4, 5, 6, 7, 8, 9, 10, 11, 12, 13, 14, 15, 16, 17, 18, 19, 20, 21, 22], [0, 1, 2, 3, 4, 5, 6, 7, 8, 9, 10, 11, 12, 13, 14, 15, 16, 17, 18, 19, 20, 21, 22, 23]]
    [(0, some 16), (1, some 17), (2, some 18), (3, some 19), (4, some 20), (5, some 21), (6, some 22), (7, some 23), (8, some 24), (9, some 25), (10, some 26), (11, some 27), (12, some 28), (13, some 29), (14, some 30), (15, some 31), (16, some 32), (17, some 33), (18, some 34), (19, some 35), (20, some 36), (21, some 37), (22, some 38), (23, some 39), (24, some 2)] (by kernel_rfl) (by kernel_rfl) (fun W W' h1 h2 => h1.trans (h2.mono h1.size)) ((Below.refl _ _).drew) ?_ ?_ ?_
  · exact (AllMono.cons Det.later (AllMono.cons Det.later (AllMono.cons Det.later (AllMono.cons Det.later (AllMono.cons Det.later (AllMono.cons Det.later (AllMono.cons Det.later (AllMono.cons Det.later (AllMono.cons Det.later (AllMono.cons Det.later (AllMono.cons Det.later (AllMono.cons Det.later (AllMono.cons Det.later (AllMono.cons Det.later (AllMono.cons Det.later (AllMono.cons Det.later (AllMono.cons Det.later (AllMono.cons Det.later (AllMono.cons Det.later (AllMono.cons Det.later (AllMono.cons Det.later (AllMono.cons Det.later (AllMono.cons Det.later (AllMono.cons Det.later (AllMono.cons Det.later AllMono.nil)))))))))))))))))))))))))
  · refine AllOb.cons ?_ (AllOb.cons ?_ (AllOb.cons ?_ (AllOb.cons ?_ (AllOb.cons ?_ (AllOb.cons ?_ (AllOb.cons ?_ (AllOb.cons ?_ (AllOb.cons ?_ (AllOb.cons ?_ (AllOb.cons ?_ (AllOb.cons ?_ (AllOb.cons ?_ (AllOb.cons ?_ (AllOb.cons ?_ (AllOb.cons ?_ (AllOb.cons ?_ (AllOb.cons ?_ (AllOb.cons ?_ (AllOb.cons ?_ (AllOb.cons ?_ (AllOb.cons ?_ (AllOb.cons ?_ (AllOb.cons ?_ (AllOb.cons ?_ (AllOb.nil)))))))))))))))))))))))))
    · intro uF W hC' hU aF hF
      have hC : Below w6.heap.size w6 W := hC'
      clear hC'
      simp only [puts] at hF
      subst hF
      go_wp2_with (((with_reducible show wpList _ _ _ (Oper.mk _ (Op.load 24 _) _ _ _ _ :: _) _ _); refine wpList_load_whole (by rfl) 24 (.tmp 4) rfl w1.heap.size rfl (arr32 K64) agg24 (by rw [size_arr32, len_K64]) 24 (K4.below hC K4.lt) ?_))
      exact ⟨rfl, rfl, (Below.refl _ _), rfl⟩
    · intro uF W hC' hU aF hF
      have hC : Below w6.heap.size w6 W := hC'
      clear hC'
      simp only [puts] at hF
      subst hF
      go_wp2_with ((go_at_call 22; refine (refconstants_c _).mono ?_; rintro e W1 ⟨rfl, hb⟩))
      exact ⟨rfl, rfl, hb, rfl⟩
    · intro uF W hC' hU aF hF
      have hC : Below w6.heap.size w6 W := hC'
      clear hC'
      have h16 : (Det (.agg (arr32 K64))) (uF 0) W := hU.1
      have h17 : (Det (.agg (arr32 K64))) (uF 1) W := hU.2.1
      clear hU
      simp only [puts, Act.put, List.setIfInBounds_toArray, List.set_cons_zero, List.set_cons_succ] at hF
      generalize uF 0 = x16 at h16 hF
      generalize uF 1 = x17 at h17 hF
      obtain rfl : x16 = (.agg (arr32 K64)) := h16
      obtain rfl : x17 = (.agg (arr32 K64)) := h17
      subst hF
      have he := eq24 K64 len_K64
      have hg := guard24
      go_wp2_with (fail)
      exact ⟨rfl, rfl, (Below.refl _ _), rfl⟩
    · intro uF W hC' hU aF hF
      have hC : Below w6.heap.size w6 W := hC'
      clear hC'
      have h18 : (Det (.bool true)) (uF 2) W := hU.1
      clear hU
      simp only [puts, Act.put, List.setIfInBounds_toArray, List.set_cons_zero, List.set_cons_succ] at hF
      generalize uF 2 = x18 at h18 hF
      obtain rfl : x18 = (.bool true) := h18
      subst hF
      go_wp2_with (fail)
      exact ⟨rfl, rfl, (Below.refl _ _), rfl⟩
    · intro uF W hC' hU aF hF
      have hC : Below w6.heap.size w6 W := hC'
      clear hC'
      have h19 : (Det (.bool true)) (uF 3) W := hU.1
      clear hU
      simp only [puts, Act.put, List.setIfInBounds_toArray, List.set_cons_zero, List.set_cons_succ] at hF
      generalize uF 3 = x19 at h19 hF
      obtain rfl : x19 = (.bool true) := h19
      subst hF
      go_wp2_with ((go_at_call 23; refine (begin_c _).mono ?_; rintro e W1 ⟨rfl, hb⟩))
      exact ⟨rfl, rfl, hb, rfl⟩
    · intro uF W hC' hU aF hF
      have hC : Below w6.heap.size w6 W := hC'
      clear hC'
      have h19 : (Det (.bool true)) (uF 3) W := hU.1
      clear hU
      simp only [puts, Act.put, List.setIfInBounds_toArray, List.set_cons_zero, List.set_cons_succ] at hF
      generalize uF 3 = x19 at h19 hF
      obtain rfl : x19 = (.bool true) := h19
      subst hF
      go_wp2_with ((go_at_call 24; refine (refbegin_c _).mono ?_; rintro e W1 ⟨rfl, hb⟩))
      exact ⟨rfl, rfl, hb, rfl⟩
    · intro uF W hC' hU aF hF
      have hC : Below w6.heap.size w6 W := hC'
      clear hC'
      have h20 : (Det (.agg (arr32 H8))) (uF 4) W := hU.1
      have h21 : (Det (.agg (arr32 H8))) (uF 5) W := hU.2.1
      have h19 : (Det (.bool true)) (uF 3) W := hU.2.2.1
      clear hU
      simp only [puts, Act.put, List.setIfInBounds_toArray, List.set_cons_zero, List.set_cons_succ] at hF
      generalize uF 4 = x20 at h20 hF
      generalize uF 5 = x21 at h21 hF
      generalize uF 3 = x19 at h19 hF
      obtain rfl : x20 = (.agg (arr32 H8)) := h20
      obtain rfl : x21 = (.agg (arr32 H8)) := h21
      obtain rfl : x19 = (.bool true) := h19
      subst hF
      have he := eq26 H8 len_H8
      have hg := guard26
      go_wp2_with (fail)
      exact ⟨rfl, rfl, (Below.refl _ _), rfl⟩
    · intro uF W hC' hU aF hF
      have hC : Below w6.heap.size w6 W := hC'
      clear hC'
      have h19 : (Det (.bool true)) (uF 3) W := hU.1
      have h22 : (Det (.bool true)) (uF 6) W := hU.2.1
      clear hU
      simp only [puts, Act.put, List.setIfInBounds_toArray, List.set_cons_zero, List.set_cons_succ] at hF
      generalize uF 3 = x19 at h19 hF
      generalize uF 6 = x22 at h22 hF
      obtain rfl : x19 = (.bool true) := h19
      obtain rfl : x22 = (.bool true) := h22
      subst hF
      go_wp2_with (fail)
      exact ⟨rfl, rfl, (Below.refl _ _), rfl⟩
    · intro uF W hC' hU aF hF
      have hC : Below w6.heap.size w6 W := hC'
      clear hC'
      have h23 : (Det (.bool true)) (uF 7) W := hU.1
      clear hU
      simp only [puts, Act.put, List.setIfInBounds_toArray, List.set_cons_zero, List.set_cons_succ] at hF
      generalize uF 7 = x23 at h23 hF
      obtain rfl : x23 = (.bool true) := h23
      subst hF
      go_wp2_with (fail)
      exact ⟨rfl, rfl, (Below.refl _ _), rfl⟩
    · intro uF W hC' hU aF hF
      have hC : Below w6.heap.size w6 W := hC'
      clear hC'
      have h24 : (Det (.bool true)) (uF 8) W := hU.1
      clear hU
      simp only [puts, Act.put, List.setIfInBounds_toArray, List.set_cons_zero, List.set_cons_succ] at hF
      generalize uF 8 = x24 at h24 hF
      obtain rfl : x24 = (.bool true) := h24
      subst hF
      go_wp2_with (fail)
      exact ⟨rfl, rfl, (Below.refl _ _), rfl⟩
    · intro uF W hC' hU aF hF
      have hC : Below w6.heap.size w6 W := hC'
      clear hC'
      have h25 : (Det (.int .i64 (k : Int))) (uF 9) W := hU.1
      have h24 : (Det (.bool true)) (uF 8) W := hU.2.1
      clear hU
      simp only [puts, Act.put, List.setIfInBounds_toArray, List.set_cons_zero, List.set_cons_succ] at hF
      generalize uF 9 = x25 at h25 hF
      generalize uF 8 = x24 at h24 hF
      obtain rfl : x25 = (.int .i64 (k : Int)) := h25
      obtain rfl : x24 = (.bool true) := h24
      subst hF
      go_wp2_with (fail)
      exact ⟨rfl, rfl, (Below.refl _ _), rfl⟩
    · intro uF W hC' hU aF hF
      have hC : Below w6.heap.size w6 W := hC'
      clear hC'
      have h26 : (Det (.pointer (some ⟨w1.heap.size, k, none⟩))) (uF 10) W := hU.1
      have h24 : (Det (.bool true)) (uF 8) W := hU.2.1
      clear hU
      simp only [puts, Act.put, List.setIfInBounds_toArray, List.set_cons_zero, List.set_cons_succ] at hF
      generalize uF 10 = x26 at h26 hF
      generalize uF 8 = x24 at h24 hF
      obtain rfl : x26 = (.pointer (some ⟨w1.heap.size, k, none⟩)) := h26
      obtain rfl : x24 = (.bool true) := h24
      subst hF
      have d1 : W.cell? ⟨w1.heap.size, k, none⟩ = some (.int .u32 (x.toNat : Int)) := by rw [(K4.below hC K4.lt).cell, arr32_get, HX.out]; rfl
      go_wp2_with (fail)
      exact ⟨rfl, rfl, (Below.refl _ _), rfl⟩
    · intro uF W hC' hU aF hF
      have hC : Below w6.heap.size w6 W := hC'
      clear hC'
      have h27 : (Det (.int .u32 (x.toNat : Int))) (uF 11) W := hU.1
      have h24 : (Det (.bool true)) (uF 8) W := hU.2.1
      clear hU
      simp only [puts, Act.put, List.setIfInBounds_toArray, List.set_cons_zero, List.set_cons_succ] at hF
      generalize uF 11 = x27 at h27 hF
      generalize uF 8 = x24 at h24 hF
      obtain rfl : x27 = (.int .u32 (x.toNat : Int)) := h27
      obtain rfl : x24 = (.bool true) := h24
      subst hF
      go_wp2_with (fail)
      exact ⟨rfl, rfl, (Below.refl _ _), rfl⟩
    · intro uF W hC' hU aF hF
      have hC : Below w6.heap.size w6 W := hC'
      clear hC'
      have h24 : (Det (.bool true)) (uF 8) W := hU.1
      have h28 : (Det (.bool true)) (uF 12) W := hU.2.1
      clear hU
      simp only [puts, Act.put, List.setIfInBounds_toArray, List.set_cons_zero, List.set_cons_succ] at hF
      generalize uF 8 = x24 at h24 hF
      generalize uF 12 = x28 at h28 hF
      obtain rfl : x24 = (.bool true) := h24
      obtain rfl : x28 = (.bool true) := h28
      subst hF
      go_wp2_with (fail)
      exact ⟨rfl, rfl, (Below.refl _ _), rfl⟩
    · intro uF W hC' hU aF hF
      have hC : Below w6.heap.size w6 W := hC'
      clear hC'
      have h29 : (Det (.bool true)) (uF 13) W := hU.1
      clear hU
      simp only [puts, Act.put, List.setIfInBounds_toArray, List.set_cons_zero, List.set_cons_succ] at hF
      generalize uF 13 = x29 at h29 hF
      obtain rfl : x29 = (.bool true) := h29
      subst hF
      go_wp2_with (fail)
      exact ⟨rfl, rfl, (Below.refl _ _), rfl⟩
    · intro uF W hC' hU aF hF
      have hC : Below w6.heap.size w6 W := hC'
      clear hC'
      have h30 : (Det (.bool true)) (uF 14) W := hU.1
      clear hU
      simp only [puts, Act.put, List.setIfInBounds_toArray, List.set_cons_zero, List.set_cons_succ] at hF
      generalize uF 14 = x30 at h30 hF
      obtain rfl : x30 = (.bool true) := h30
      subst hF
      go_wp2_with (((with_reducible show wpList _ _ _ (Oper.mk _ (Op.load _ _) _ _ _ _ :: _) _ _); refine wpList_load_whole (by rfl) 24 (.tmp 5) rfl w3.heap.size rfl (arr32 K64) agg24 (by rw [size_arr32, len_K64]) 24 (K5.below hC K5.lt) ?_))
      exact ⟨rfl, rfl, (Below.refl _ _), rfl⟩
    · intro uF W hC' hU aF hF
      have hC : Below w6.heap.size w6 W := hC'
      clear hC'
      have h30 : (Det (.bool true)) (uF 14) W := hU.1
      clear hU
      simp only [puts, Act.put, List.setIfInBounds_toArray, List.set_cons_zero, List.set_cons_succ] at hF
      generalize uF 14 = x30 at h30 hF
      obtain rfl : x30 = (.bool true) := h30
      subst hF
      go_wp2_with (((with_reducible show wpList _ _ _ (Oper.mk _ (Op.load _ _) _ _ _ _ :: _) _ _); refine wpList_load_whole (by rfl) 24 (.tmp 4) rfl w1.heap.size rfl (arr32 K64) agg24 (by rw [size_arr32, len_K64]) 24 (K4.below hC K4.lt) ?_))
      exact ⟨rfl, rfl, (Below.refl _ _), rfl⟩
    · intro uF W hC' hU aF hF
      have hC : Below w6.heap.size w6 W := hC'
      clear hC'
      have h31 : (Det (.agg (arr32 K64))) (uF 15) W := hU.1
      have h32 : (Det (.agg (arr32 K64))) (uF 16) W := hU.2.1
      have h30 : (Det (.bool true)) (uF 14) W := hU.2.2.1
      clear hU
      simp only [puts, Act.put, List.setIfInBounds_toArray, List.set_cons_zero, List.set_cons_succ] at hF
      generalize uF 15 = x31 at h31 hF
      generalize uF 16 = x32 at h32 hF
      generalize uF 14 = x30 at h30 hF
      obtain rfl : x31 = (.agg (arr32 K64)) := h31
      obtain rfl : x32 = (.agg (arr32 K64)) := h32
      obtain rfl : x30 = (.bool true) := h30
      subst hF
      have he := eq24 K64 len_K64
      have hg := guard24
      go_wp2_with (fail)
      exact ⟨rfl, rfl, (Below.refl _ _), rfl⟩
    · intro uF W hC' hU aF hF
      have hC : Below w6.heap.size w6 W := hC'
      clear hC'
      have h30 : (Det (.bool true)) (uF 14) W := hU.1
      have h33 : (Det (.bool true)) (uF 17) W := hU.2.1
      clear hU
      simp only [puts, Act.put, List.setIfInBounds_toArray, List.set_cons_zero, List.set_cons_succ] at hF
      generalize uF 14 = x30 at h30 hF
      generalize uF 17 = x33 at h33 hF
      obtain rfl : x30 = (.bool true) := h30
      obtain rfl : x33 = (.bool true) := h33
      subst hF
      go_wp2_with (fail)
      exact ⟨rfl, rfl, (Below.refl _ _), rfl⟩
    · intro uF W hC' hU aF hF
      have hC : Below w6.heap.size w6 W := hC'
      clear hC'
      have h34 : (Det (.bool true)) (uF 18) W := hU.1
      clear hU
      simp only [puts, Act.put, List.setIfInBounds_toArray, List.set_cons_zero, List.set_cons_succ] at hF
      generalize uF 18 = x34 at h34 hF
      obtain rfl : x34 = (.bool true) := h34
      subst hF
      go_wp2_with (fail)
      exact ⟨rfl, rfl, (Below.refl _ _), rfl⟩
    · intro uF W hC' hU aF hF
      have hC : Below w6.heap.size w6 W := hC'
      clear hC'
      have h35 : (Det (.bool true)) (uF 19) W := hU.1
      clear hU
      simp only [puts, Act.put, List.setIfInBounds_toArray, List.set_cons_zero, List.set_cons_succ] at hF
      generalize uF 19 = x35 at h35 hF
      obtain rfl : x35 = (.bool true) := h35
      subst hF
      go_wp2_with (((with_reducible show wpList _ _ _ (Oper.mk _ (Op.load _ _) _ _ _ _ :: _) _ _); refine wpList_load_whole (by rfl) 26 (.tmp 6) rfl (w3.heap.size + 1) rfl (arr32 H8) agg26 (by rw [size_arr32, len_H8]) 26 (hb6.below hC hb6.lt) ?_))
      exact ⟨rfl, rfl, (Below.refl _ _), rfl⟩
    · intro uF W hC' hU aF hF
      have hC : Below w6.heap.size w6 W := hC'
      clear hC'
      have h35 : (Det (.bool true)) (uF 19) W := hU.1
      clear hU
      simp only [puts, Act.put, List.setIfInBounds_toArray, List.set_cons_zero, List.set_cons_succ] at hF
      generalize uF 19 = x35 at h35 hF
      obtain rfl : x35 = (.bool true) := h35
      subst hF
      go_wp2_with ((go_at_call 23; refine (begin_c _).mono ?_; rintro e W1 ⟨rfl, hb⟩))
      exact ⟨rfl, rfl, hb, rfl⟩
    · intro uF W hC' hU aF hF
      have hC : Below w6.heap.size w6 W := hC'
      clear hC'
      have h36 : (Det (.agg (arr32 H8))) (uF 20) W := hU.1
      have h37 : (Det (.agg (arr32 H8))) (uF 21) W := hU.2.1
      have h35 : (Det (.bool true)) (uF 19) W := hU.2.2.1
      clear hU
      simp only [puts, Act.put, List.setIfInBounds_toArray, List.set_cons_zero, List.set_cons_succ] at hF
      generalize uF 20 = x36 at h36 hF
      generalize uF 21 = x37 at h37 hF
      generalize uF 19 = x35 at h35 hF
      obtain rfl : x36 = (.agg (arr32 H8)) := h36
      obtain rfl : x37 = (.agg (arr32 H8)) := h37
      obtain rfl : x35 = (.bool true) := h35
      subst hF
      have he := eq26 H8 len_H8
      have hg := guard26
      go_wp2_with (fail)
      exact ⟨rfl, rfl, (Below.refl _ _), rfl⟩
    · intro uF W hC' hU aF hF
      have hC : Below w6.heap.size w6 W := hC'
      clear hC'
      have h35 : (Det (.bool true)) (uF 19) W := hU.1
      have h38 : (Det (.bool true)) (uF 22) W := hU.2.1
      clear hU
      simp only [puts, Act.put, List.setIfInBounds_toArray, List.set_cons_zero, List.set_cons_succ] at hF
      generalize uF 19 = x35 at h35 hF
      generalize uF 22 = x38 at h38 hF
      obtain rfl : x35 = (.bool true) := h35
      obtain rfl : x38 = (.bool true) := h38
      subst hF
      go_wp2_with (fail)
      exact ⟨rfl, rfl, (Below.refl _ _), rfl⟩
    · intro uF W hC' hU aF hF
      have hC : Below w6.heap.size w6 W := hC'
      clear hC'
      have h39 : (Det (.bool true)) (uF 23) W := hU.1
      clear hU
      simp only [puts, Act.put, List.setIfInBounds_toArray, List.set_cons_zero, List.set_cons_succ] at hF
      generalize uF 23 = x39 at h39 hF
      obtain rfl : x39 = (.bool true) := h39
      subst hF
      go_wp2_with (fail)
      exact ⟨rfl, rfl, (Below.refl _ _), rfl⟩
  intro uF v7 hC' hU aF hF
  have hCv7 : Below w6.heap.size w6 v7 := hC'
  clear hC'
  have h2 : (Det (.bool true)) (uF 24) v7 := hU.2.2.2.2.2.2.2.2.2.2.2.2.2.2.2.2.2.2.2.2.2.2.2.2.1
  clear hU
  simp only [puts, Act.put, List.setIfInBounds_toArray, List.set_cons_zero, List.set_cons_succ] at hF
  generalize uF 0 = x16 at hF
  generalize uF 1 = x17 at hF
  generalize uF 2 = x18 at hF
  generalize uF 3 = x19 at hF
  generalize uF 4 = x20 at hF
  generalize uF 5 = x21 at hF
  generalize uF 6 = x22 at hF
  generalize uF 7 = x23 at hF
  generalize uF 8 = x24 at hF
  generalize uF 9 = x25 at hF
  generalize uF 10 = x26 at hF
  generalize uF 11 = x27 at hF
  generalize uF 12 = x28 at hF
  generalize uF 13 = x29 at hF
  generalize uF 14 = x30 at hF
  generalize uF 15 = x31 at hF
  generalize uF 16 = x32 at hF
  generalize uF 17 = x33 at hF
  generalize uF 18 = x34 at hF
  generalize uF 19 = x35 at hF
  generalize uF 20 = x36 at hF
  generalize uF 21 = x37 at hF
  generalize uF 22 = x38 at hF
  generalize uF 23 = x39 at hF
  generalize uF 24 = x2 at h2 hF
  obtain rfl : x2 = (.bool true) := h2
  subst hF
  go_wp2_with fail
  go_ret
  exact ⟨rfl, h06.trans (hCv7.mono hz6)⟩
end Go.Proofs.Ytbphoilfiahnpaa.digestConstants

