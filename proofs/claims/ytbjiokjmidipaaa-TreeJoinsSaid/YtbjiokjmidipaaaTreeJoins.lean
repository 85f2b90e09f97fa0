/-
  TreeJoins: which tag is over two children.
-/
import Derived.Test.YtbjiokjmidipaaaTree
namespace Go.Proofs.Ytbjiokjmidipaaa.treeJoins
open Go.RowKit
set_option linter.unusedVariables false
set_option linter.unusedSimpArgs false
set_option maxRecDepth 100000

def one32 : List UInt8 := 1 :: List.replicate 31 0
theorem len_one32 : one32.length = 32 := by simp [one32]
theorem build_one (w : World) : (Instr.build 40 #[(0, .int .u8 1)]).run Try.prog w = .ok (.agg (arr8 one32)) w := by kernel_rfl
theorem not_none : (joinOf [] 1 noS one32 == noS) = false := by decide +kernel

set_option maxHeartbeats 2000000 in
theorem joins_c {w : World} {A0 : Option Addr} {n0 c0 : Nat} {bs0 : List UInt8} (w0 : SlB w w.heap.size A0 n0 c0 bs0) (y0 : c0 ≤ 140737488351232) (i : Int) (a b : List UInt8) (ha : a.length = 32) (hb : b.length = 32) :
    Calls Try.prog 26 #[.slice A0 n0 c0, .int .i64 i, .agg (arr8 a), .agg (arr8 b)] w fun e w' => e = .returned (.bool true) ∧ Below w.heap.size w w' := by
  have hnb0 : n0 ≤ 140737488351232 := Nat.le_trans w0.le y0
  obtain ⟨g6, hg6⟩ : ∃ g, g = w.heap.size := ⟨_, rfl⟩
  obtain ⟨g7, hg7⟩ : ∃ g, g = w.heap.size + 1 := ⟨_, rfl⟩
  obtain ⟨g9, hg9⟩ : ∃ g, g = w.heap.size + 1 + 1 := ⟨_, rfl⟩
  obtain ⟨v, hv⟩ : ∃ v, v = (w.alloc (.cells (arr8 a) 40)).alloc (.cells (arr8 b) 40) := ⟨_, rfl⟩
  have b6 : Blk v g6 40 (arr8 a) := by rw [hv, hg6]; exact (Blk.new _ _ _).alloc _
  have b7 : Blk v g7 40 (arr8 b) := by
    have := Blk.new (w.alloc (.cells (arr8 a) 40)) 40 (arr8 b)
    rw [World.size_alloc] at this
    rw [hv, hg7]; exact this
  have hbv : Below w.heap.size w v := by rw [hv]; exact ((Below.refl _ _).alloc (Nat.le_refl _) _).alloc (by simp) _
  have hzv : v.heap.size = g9 := by rw [hv, hg9]; simp
  have b9 := Blk.new v 40 (arr8 (z8' 32))
  rw [hzv] at b9
  have HV := Lib.hid hv
  have HG6 := Lib.hid hg6
  have HG7 := Lib.hid hg7
  have HZV := Lib.hid hzv
  have hD : g6 < g7 ∧ g7 < g9 := ⟨by omega, by omega⟩
  have hw6 : w.heap.size ≤ g6 := by omega
  have W0 := Lib.hid w0
  clear hv hg6 hg7 hg9 hzv w0
  by_cases hbig : 1000 < n0
  · have hbi : (1000 : Int) < (n0 : Int) := by omega
    go_enter Try.func26, Try.ntmps26
    go_wp2_with fail
    go_ret
    exact ⟨rfl, by rw [← HV.out]; exact hbv⟩
  · have hbi : ¬ (1000 : Int) < (n0 : Int) := by omega
    go_enter Try.func26, Try.ntmps26
    go_wp2_with (first
      | ((with_reducible show wpList _ _ _ (Oper.mk (some 9) (Op.alloc 40) _ _ _ _ :: _) _ _); refine wpList_alloc_agg rfl 40 rfl (arr8 (z8' 32)) zero44 ?_; rw [← HV.out, HZV.out, ← HG7.out, ← HG6.out])
      | ((with_reducible show wpList _ _ _ (Oper.mk _ (Op.build 40 _) _ _ _ _ :: _) _ _); refine wpList_build rfl 40 _ rfl #[] (by simp only [List.map_toArray, List.map_nil]) _ (build44 _) ?_)
      | ((with_reducible show wpList _ _ _ (Oper.mk none (Op.store 40 (.tmp 9) _) _ _ _ _ :: _) _ _); refine wpList_store8 rfl 40 (.tmp 9) (.tmp 13) rfl g9 rfl noS rfl agg44 len_noS _ _ b9 (by rw [size_arr8, len_z8']) ?_; intro v2 hb2 hgr2 hs2; have c6 := (b6.alloc _).grown hgr2 (by simp; omega); have c7 := (b7.alloc _).grown hgr2 (by simp; omega); have hv2 := (hbv.alloc hbv.size _).grown hgr2 (Nat.le_trans hbv.size (by simp)) (fun k hk => by cases hk; omega); simp only [Act.put, List.setIfInBounds_toArray, List.set_cons_succ, List.set_cons_zero]))
    have hz2 := hv2.size
    have hk0 := W0.out.below hv2
    obtain ⟨jj, hjj⟩ : ∃ jj, jj = joinOf bs0 i a b := ⟨_, rfl⟩
    have hlj : jj.length = 32 := by rw [hjj, len_joinOf]
    obtain ⟨l0, hl0⟩ : ∃ l0, l0 = joinOf [] 1 noS one32 := ⟨_, rfl⟩
    have hll0 : l0.length = 32 := by rw [hl0, len_joinOf]
    have HNE := Lib.hid (show (l0 == noS) = false by rw [hl0]; exact not_none)
    have HJJ := Lib.hid hjj
    have HL0 := Lib.hid hl0
    clear hs2 hgr2 b6 b7 b9 hl0 hjj
    refine wp_region_rel (fun W W' => Below W.heap.size W W') (fun W => Below v2.heap.size v2 W)
      [Det (.agg (arr8 noS)), Det (.agg (arr8 one32)), Det (.agg (arr8 l0)), Det (.agg (arr8 noS)), Det (.bool true), Det (.bool true), Det (.slice A0 n0 c0), Det (.int .i64 i), Det (.agg (arr8 noS)), Det (.agg (arr8 noS)), Det (.agg (arr8 noS)), Det (.agg (arr8 noS)), Det (.bool true), Det (.bool true), Det (.bool true), Det (.slice A0 n0 c0), Det (.int .i64 i), Det (.agg (arr8 a)), Det (.agg (arr8 b)), Det (.agg (arr8 jj)), Det (.slice A0 n0 c0), Det (.int .i64 i), Det (.agg (arr8 a)), Det (.agg (arr8 b)), Det (.agg (arr8 jj)), Det (.bool true), Det (.bool true), Det (.bool true)]
      [[], [], [(0, some 14), (1, some 15)], [], [(2, some 16), (3, some 17)], [(4, some 18)], [(5, some 19)], [(5, some 19)], [(5, some 19)], [(5, some 19)], [(6, some 20), (7, some 21), (8, some 22), (9, some 23), (5, some 19)], [(5, some 19)], [(10, some 24), (11, some 25), (5, some 19)], [(5, some 19), (12, some 26)], [(13, some 27)], [(14, some 28)], [(14, some 28)], [(14, some 28)], [(14, some 28)], [(15, some 29), (16, some 30), (17, some 31), (18, some 32), (14, some 28)], [(14, some 28)], [(14, some 28)], [(14, some 28)], [(14, some 28)], [(20, some 34), (21, some 35), (22, some 36), (23, some 37), (14, some 28)], [(19, some 33), (24, some 38), (14, some 28)], [(14, some 28), (25, some 39)], [(26, some 40)]]
      [[], [], [0, 1], [], [0, 1, 2, 3], [0, 1, 2, 3, 4], [0, 1, 2, 3, 4, 5], [0, 1, 2, 3, 4, 5], [0, 1, 2, 3, 4, 5], [0, 1, 2, 3, 4, 5], [0, 1, 2, 3, 4, 5, 6, 7, 8, 9], [0, 1, 2, 3, 4, 5], [0, 1, 2, 3, 4, 5, 6, 7, 8, 9, 10, 11], [0, 1, 2, 3, 4, 5, 6, 7, 8, 9, 10, 11, 12], [0, 1, 2, 3, 4, 5, 6, 7, 8, 9, 10, 11, 12, 13], [0, 1, 2, 3, 4, 5, 6, 7, 8, 9, 10, 11, 12, 13, 14], [0, 1, 2, 3, 4, 5, 6, 7, 8, 9, 10, 11, 12, 13, 14], [0, 1, 2, 3, 4, 5, 6, 7, 8, 9, 10, 11, 12, 13, 14], [0, 1, 2, 3, 4, 5, 6, 7, 8, 9, 10, 11, 12, 13, 14], [0, 1, 2, 3, 4, 5, 6, 7, 8, 9, 10, 11, 12, 13, 14, 15, 16, 17, 18], [0, 1, 2, 3, 4, 5, 6, 7, 8, 9, 10, 11, 12, 13, 14], [0, 1, 2, 3, 4, 5, 6, 7, 8, 9, 10, 11, 12, 13, 14], [0, 1, 2, 3, 4, 5, 6, 7, 8, 9, 10, 11, 12, 13, 14], [0, 1, 2, 3, 4, 5, 6, 7, 8, 9, 10, 11, 12, 13, 14], [0, 1, 2, 3, 4, 5, 6, 7, 8, 9, 10, 11, 12, 13, 14, 15, 16, 17, 18, 19, 20, 21, 22, 23], [0, 1, 2, 3, 4, 5, 6, 7, 8, 9, 10, 11, 12, 13, 14, 15, 16, 17, 18, 19, 20, 21, 22, 23, 24], [0, 1, 2, 3, 4, 5, 6, 7, 8, 9, 10, 11, 12, 13, 14, 15, 16, 17, 18, 19, 20, 21, 22, 23, 24, 25], [0, 1, 2, 3, 4, 5, 6, 7, 8, 9, 10, 11, 12, 13, 14, 15, 16, 17, 18, 19, 20, 21, 22, 23, 24, 25, 26]]
      [(0, some 14), (1, some 15), (2, some 16), (3, some 17), (4, some 18), (5, some 19), (6, some 20), (7, some 21), (8, some 22), (9, some 23), (10, some 24), (11, some 25), (12, some 26), (13, some 27), (14, some 28), (15, some 29), (16, some 30), (17, some 31), (18, some 32), (19, some 33), (20, some 34), (21, some 35), (22, some 36), (23, some 37), (24, some 38), (25, some 39), (26, some 40), (27, some 8)] (by kernel_rfl) (by kernel_rfl) (fun W W' h1 h2 => h1.trans (h2.mono h1.size)) ((Below.refl _ _).drew) ?_ ?_ ?_
    · exact (AllMono.cons Det.later (AllMono.cons Det.later (AllMono.cons Det.later (AllMono.cons Det.later (AllMono.cons Det.later (AllMono.cons Det.later (AllMono.cons Det.later (AllMono.cons Det.later (AllMono.cons Det.later (AllMono.cons Det.later (AllMono.cons Det.later (AllMono.cons Det.later (AllMono.cons Det.later (AllMono.cons Det.later (AllMono.cons Det.later (AllMono.cons Det.later (AllMono.cons Det.later (AllMono.cons Det.later (AllMono.cons Det.later (AllMono.cons Det.later (AllMono.cons Det.later (AllMono.cons Det.later (AllMono.cons Det.later (AllMono.cons Det.later (AllMono.cons Det.later (AllMono.cons Det.later (AllMono.cons Det.later (AllMono.cons Det.later AllMono.nil))))))))))))))))))))))))))))
    · refine AllOb.cons ?_ (AllOb.cons ?_ (AllOb.cons ?_ (AllOb.cons ?_ (AllOb.cons ?_ (AllOb.cons ?_ (AllOb.cons ?_ (AllOb.cons ?_ (AllOb.cons ?_ (AllOb.cons ?_ (AllOb.cons ?_ (AllOb.cons ?_ (AllOb.cons ?_ (AllOb.cons ?_ (AllOb.cons ?_ (AllOb.cons ?_ (AllOb.cons ?_ (AllOb.cons ?_ (AllOb.cons ?_ (AllOb.cons ?_ (AllOb.cons ?_ (AllOb.cons ?_ (AllOb.cons ?_ (AllOb.cons ?_ (AllOb.cons ?_ (AllOb.cons ?_ (AllOb.cons ?_ (AllOb.cons ?_ (AllOb.nil))))))))))))))))))))))))))))
      · intro uF W hC' hU aF hF
        have hC : Below v2.heap.size v2 W := hC'
        clear hC'
        simp only [puts] at hF
        subst hF
        go_wp2_with (((with_reducible show wpList _ _ _ (Oper.mk _ (Op.load 40 _) _ _ _ _ :: _) _ _); refine wpList_load_whole (by rfl) 40 (.tmp 9) rfl g9 rfl (arr8 noS) agg44 (by rw [size_arr8, len_noS]) 40 (hb2.below hC hb2.lt) ?_))
        exact ⟨rfl, rfl, (Below.refl _ _), rfl⟩
      · intro uF W hC' hU aF hF
        have hC : Below v2.heap.size v2 W := hC'
        clear hC'
        simp only [puts] at hF
        subst hF
        have hbd := build_one
        go_wp2_with (fail)
        exact ⟨rfl, rfl, (Below.refl _ _), rfl⟩
      · intro uF W hC' hU aF hF
        have hC : Below v2.heap.size v2 W := hC'
        clear hC'
        have h14 : (Det (.agg (arr8 noS))) (uF 0) W := hU.1
        have h15 : (Det (.agg (arr8 one32))) (uF 1) W := hU.2.1
        clear hU
        simp only [puts, Act.put, List.setIfInBounds_toArray, List.set_cons_zero, List.set_cons_succ] at hF
        generalize uF 0 = x14 at h14 hF
        generalize uF 1 = x15 at h15 hF
        obtain rfl : x14 = (.agg (arr8 noS)) := h14
        obtain rfl : x15 = (.agg (arr8 one32)) := h15
        subst hF
        go_wp2_with ((go_at_call 49; refine (node_c (SlB.nil W W.heap.size none) (Nat.le_refl _) (by omega) 1 noS one32 len_noS len_one32).mono ?_; rintro e W1 ⟨rfl, hb⟩; rw [← HL0.out]))
        exact ⟨rfl, rfl, hb, rfl⟩
      · intro uF W hC' hU aF hF
        have hC : Below v2.heap.size v2 W := hC'
        clear hC'
        simp only [puts] at hF
        subst hF
        go_wp2_with (((with_reducible show wpList _ _ _ (Oper.mk _ (Op.load 40 _) _ _ _ _ :: _) _ _); refine wpList_load_whole (by rfl) 40 (.tmp 9) rfl g9 rfl (arr8 noS) agg44 (by rw [size_arr8, len_noS]) 40 (hb2.below hC hb2.lt) ?_))
        exact ⟨rfl, rfl, (Below.refl _ _), rfl⟩
      · intro uF W hC' hU aF hF
        have hC : Below v2.heap.size v2 W := hC'
        clear hC'
        have h16 : (Det (.agg (arr8 l0))) (uF 2) W := hU.1
        have h17 : (Det (.agg (arr8 noS))) (uF 3) W := hU.2.1
        clear hU
        simp only [puts, Act.put, List.setIfInBounds_toArray, List.set_cons_zero, List.set_cons_succ] at hF
        generalize uF 2 = x16 at h16 hF
        generalize uF 3 = x17 at h17 hF
        obtain rfl : x16 = (.agg (arr8 l0)) := h16
        obtain rfl : x17 = (.agg (arr8 noS)) := h17
        subst hF
        have he := eq_noS l0 hll0 false HNE.out
        have hg := guard44
        go_wp2_with (fail)
        exact ⟨rfl, rfl, (Below.refl _ _), rfl⟩
      · intro uF W hC' hU aF hF
        have hC : Below v2.heap.size v2 W := hC'
        clear hC'
        have h18 : (Det (.bool true)) (uF 4) W := hU.1
        clear hU
        simp only [puts, Act.put, List.setIfInBounds_toArray, List.set_cons_zero, List.set_cons_succ] at hF
        generalize uF 4 = x18 at h18 hF
        obtain rfl : x18 = (.bool true) := h18
        subst hF
        go_wp2_with (fail)
        exact ⟨rfl, rfl, (Below.refl _ _), rfl⟩
      · intro uF W hC' hU aF hF
        have hC : Below v2.heap.size v2 W := hC'
        clear hC'
        have h19 : (Det (.bool true)) (uF 5) W := hU.1
        clear hU
        simp only [puts, Act.put, List.setIfInBounds_toArray, List.set_cons_zero, List.set_cons_succ] at hF
        generalize uF 5 = x19 at h19 hF
        obtain rfl : x19 = (.bool true) := h19
        subst hF
        go_wp2_with (fail)
        exact ⟨rfl, rfl, (Below.refl _ _), rfl⟩
      · intro uF W hC' hU aF hF
        have hC : Below v2.heap.size v2 W := hC'
        clear hC'
        have h19 : (Det (.bool true)) (uF 5) W := hU.1
        clear hU
        simp only [puts, Act.put, List.setIfInBounds_toArray, List.set_cons_zero, List.set_cons_succ] at hF
        generalize uF 5 = x19 at h19 hF
        obtain rfl : x19 = (.bool true) := h19
        subst hF
        go_wp2_with (fail)
        exact ⟨rfl, rfl, (Below.refl _ _), rfl⟩
      · intro uF W hC' hU aF hF
        have hC : Below v2.heap.size v2 W := hC'
        clear hC'
        have h19 : (Det (.bool true)) (uF 5) W := hU.1
        clear hU
        simp only [puts, Act.put, List.setIfInBounds_toArray, List.set_cons_zero, List.set_cons_succ] at hF
        generalize uF 5 = x19 at h19 hF
        obtain rfl : x19 = (.bool true) := h19
        subst hF
        go_wp2_with (((with_reducible show wpList _ _ _ (Oper.mk _ (Op.load 40 _) _ _ _ _ :: _) _ _); refine wpList_load_whole (by rfl) 40 (.tmp 9) rfl g9 rfl (arr8 noS) agg44 (by rw [size_arr8, len_noS]) 40 (hb2.below hC hb2.lt) ?_))
        exact ⟨rfl, rfl, (Below.refl _ _), rfl⟩
      · intro uF W hC' hU aF hF
        have hC : Below v2.heap.size v2 W := hC'
        clear hC'
        have h19 : (Det (.bool true)) (uF 5) W := hU.1
        clear hU
        simp only [puts, Act.put, List.setIfInBounds_toArray, List.set_cons_zero, List.set_cons_succ] at hF
        generalize uF 5 = x19 at h19 hF
        obtain rfl : x19 = (.bool true) := h19
        subst hF
        go_wp2_with (((with_reducible show wpList _ _ _ (Oper.mk _ (Op.load 40 _) _ _ _ _ :: _) _ _); refine wpList_load_whole (by rfl) 40 (.tmp 9) rfl g9 rfl (arr8 noS) agg44 (by rw [size_arr8, len_noS]) 40 (hb2.below hC hb2.lt) ?_))
        exact ⟨rfl, rfl, (Below.refl _ _), rfl⟩
      · intro uF W hC' hU aF hF
        have hC : Below v2.heap.size v2 W := hC'
        clear hC'
        have h20 : (Det (.slice A0 n0 c0)) (uF 6) W := hU.1
        have h21 : (Det (.int .i64 i)) (uF 7) W := hU.2.1
        have h22 : (Det (.agg (arr8 noS))) (uF 8) W := hU.2.2.1
        have h23 : (Det (.agg (arr8 noS))) (uF 9) W := hU.2.2.2.1
        have h19 : (Det (.bool true)) (uF 5) W := hU.2.2.2.2.1
        clear hU
        simp only [puts, Act.put, List.setIfInBounds_toArray, List.set_cons_zero, List.set_cons_succ] at hF
        generalize uF 6 = x20 at h20 hF
        generalize uF 7 = x21 at h21 hF
        generalize uF 8 = x22 at h22 hF
        generalize uF 9 = x23 at h23 hF
        generalize uF 5 = x19 at h19 hF
        obtain rfl : x20 = (.slice A0 n0 c0) := h20
        obtain rfl : x21 = (.int .i64 i) := h21
        obtain rfl : x22 = (.agg (arr8 noS)) := h22
        obtain rfl : x23 = (.agg (arr8 noS)) := h23
        obtain rfl : x19 = (.bool true) := h19
        subst hF
        go_wp2_with ((go_at_call 49; refine (node_c (hk0.below (hC.mono hz2)) (Nat.le_trans hz2 hC.size) (by omega) i noS noS len_noS len_noS).mono ?_; rintro e W1 ⟨rfl, hb⟩; rw [joinOf_none]))
        exact ⟨rfl, rfl, hb, rfl⟩
      · intro uF W hC' hU aF hF
        have hC : Below v2.heap.size v2 W := hC'
        clear hC'
        have h19 : (Det (.bool true)) (uF 5) W := hU.1
        clear hU
        simp only [puts, Act.put, List.setIfInBounds_toArray, List.set_cons_zero, List.set_cons_succ] at hF
        generalize uF 5 = x19 at h19 hF
        obtain rfl : x19 = (.bool true) := h19
        subst hF
        go_wp2_with (((with_reducible show wpList _ _ _ (Oper.mk _ (Op.load 40 _) _ _ _ _ :: _) _ _); refine wpList_load_whole (by rfl) 40 (.tmp 9) rfl g9 rfl (arr8 noS) agg44 (by rw [size_arr8, len_noS]) 40 (hb2.below hC hb2.lt) ?_))
        exact ⟨rfl, rfl, (Below.refl _ _), rfl⟩
      · intro uF W hC' hU aF hF
        have hC : Below v2.heap.size v2 W := hC'
        clear hC'
        have h24 : (Det (.agg (arr8 noS))) (uF 10) W := hU.1
        have h25 : (Det (.agg (arr8 noS))) (uF 11) W := hU.2.1
        have h19 : (Det (.bool true)) (uF 5) W := hU.2.2.1
        clear hU
        simp only [puts, Act.put, List.setIfInBounds_toArray, List.set_cons_zero, List.set_cons_succ] at hF
        generalize uF 10 = x24 at h24 hF
        generalize uF 11 = x25 at h25 hF
        generalize uF 5 = x19 at h19 hF
        obtain rfl : x24 = (.agg (arr8 noS)) := h24
        obtain rfl : x25 = (.agg (arr8 noS)) := h25
        obtain rfl : x19 = (.bool true) := h19
        subst hF
        have he := eq_noS noS len_noS true (by simp)
        have hg := guard44
        go_wp2_with (fail)
        exact ⟨rfl, rfl, (Below.refl _ _), rfl⟩
      · intro uF W hC' hU aF hF
        have hC : Below v2.heap.size v2 W := hC'
        clear hC'
        have h19 : (Det (.bool true)) (uF 5) W := hU.1
        have h26 : (Det (.bool true)) (uF 12) W := hU.2.1
        clear hU
        simp only [puts, Act.put, List.setIfInBounds_toArray, List.set_cons_zero, List.set_cons_succ] at hF
        generalize uF 5 = x19 at h19 hF
        generalize uF 12 = x26 at h26 hF
        obtain rfl : x19 = (.bool true) := h19
        obtain rfl : x26 = (.bool true) := h26
        subst hF
        go_wp2_with (fail)
        exact ⟨rfl, rfl, (Below.refl _ _), rfl⟩
      · intro uF W hC' hU aF hF
        have hC : Below v2.heap.size v2 W := hC'
        clear hC'
        have h27 : (Det (.bool true)) (uF 13) W := hU.1
        clear hU
        simp only [puts, Act.put, List.setIfInBounds_toArray, List.set_cons_zero, List.set_cons_succ] at hF
        generalize uF 13 = x27 at h27 hF
        obtain rfl : x27 = (.bool true) := h27
        subst hF
        go_wp2_with (fail)
        exact ⟨rfl, rfl, (Below.refl _ _), rfl⟩
      · intro uF W hC' hU aF hF
        have hC : Below v2.heap.size v2 W := hC'
        clear hC'
        have h28 : (Det (.bool true)) (uF 14) W := hU.1
        clear hU
        simp only [puts, Act.put, List.setIfInBounds_toArray, List.set_cons_zero, List.set_cons_succ] at hF
        generalize uF 14 = x28 at h28 hF
        obtain rfl : x28 = (.bool true) := h28
        subst hF
        go_wp2_with (fail)
        exact ⟨rfl, rfl, (Below.refl _ _), rfl⟩
      · intro uF W hC' hU aF hF
        have hC : Below v2.heap.size v2 W := hC'
        clear hC'
        have h28 : (Det (.bool true)) (uF 14) W := hU.1
        clear hU
        simp only [puts, Act.put, List.setIfInBounds_toArray, List.set_cons_zero, List.set_cons_succ] at hF
        generalize uF 14 = x28 at h28 hF
        obtain rfl : x28 = (.bool true) := h28
        subst hF
        go_wp2_with (fail)
        exact ⟨rfl, rfl, (Below.refl _ _), rfl⟩
      · intro uF W hC' hU aF hF
        have hC : Below v2.heap.size v2 W := hC'
        clear hC'
        have h28 : (Det (.bool true)) (uF 14) W := hU.1
        clear hU
        simp only [puts, Act.put, List.setIfInBounds_toArray, List.set_cons_zero, List.set_cons_succ] at hF
        generalize uF 14 = x28 at h28 hF
        obtain rfl : x28 = (.bool true) := h28
        subst hF
        go_wp2_with (((with_reducible show wpList _ _ _ (Oper.mk _ (Op.load 40 _) _ _ _ _ :: _) _ _); refine wpList_load_whole (by rfl) 40 (.tmp 6) rfl g6 rfl (arr8 a) agg44 (by rw [size_arr8, ha]) 40 (c6.below hC c6.lt) ?_))
        exact ⟨rfl, rfl, (Below.refl _ _), rfl⟩
      · intro uF W hC' hU aF hF
        have hC : Below v2.heap.size v2 W := hC'
        clear hC'
        have h28 : (Det (.bool true)) (uF 14) W := hU.1
        clear hU
        simp only [puts, Act.put, List.setIfInBounds_toArray, List.set_cons_zero, List.set_cons_succ] at hF
        generalize uF 14 = x28 at h28 hF
        obtain rfl : x28 = (.bool true) := h28
        subst hF
        go_wp2_with (((with_reducible show wpList _ _ _ (Oper.mk _ (Op.load 40 _) _ _ _ _ :: _) _ _); refine wpList_load_whole (by rfl) 40 (.tmp 7) rfl g7 rfl (arr8 b) agg44 (by rw [size_arr8, hb]) 40 (c7.below hC c7.lt) ?_))
        exact ⟨rfl, rfl, (Below.refl _ _), rfl⟩
      · intro uF W hC' hU aF hF
        have hC : Below v2.heap.size v2 W := hC'
        clear hC'
        have h29 : (Det (.slice A0 n0 c0)) (uF 15) W := hU.1
        have h30 : (Det (.int .i64 i)) (uF 16) W := hU.2.1
        have h31 : (Det (.agg (arr8 a))) (uF 17) W := hU.2.2.1
        have h32 : (Det (.agg (arr8 b))) (uF 18) W := hU.2.2.2.1
        have h28 : (Det (.bool true)) (uF 14) W := hU.2.2.2.2.1
        clear hU
        simp only [puts, Act.put, List.setIfInBounds_toArray, List.set_cons_zero, List.set_cons_succ] at hF
        generalize uF 15 = x29 at h29 hF
        generalize uF 16 = x30 at h30 hF
        generalize uF 17 = x31 at h31 hF
        generalize uF 18 = x32 at h32 hF
        generalize uF 14 = x28 at h28 hF
        obtain rfl : x29 = (.slice A0 n0 c0) := h29
        obtain rfl : x30 = (.int .i64 i) := h30
        obtain rfl : x31 = (.agg (arr8 a)) := h31
        obtain rfl : x32 = (.agg (arr8 b)) := h32
        obtain rfl : x28 = (.bool true) := h28
        subst hF
        go_wp2_with ((go_at_call 49; refine (node_c (hk0.below (hC.mono hz2)) (Nat.le_trans hz2 hC.size) (by omega) i a b ha hb).mono ?_; rintro e W1 ⟨rfl, hb⟩; rw [← HJJ.out]))
        exact ⟨rfl, rfl, hb, rfl⟩
      · intro uF W hC' hU aF hF
        have hC : Below v2.heap.size v2 W := hC'
        clear hC'
        have h28 : (Det (.bool true)) (uF 14) W := hU.1
        clear hU
        simp only [puts, Act.put, List.setIfInBounds_toArray, List.set_cons_zero, List.set_cons_succ] at hF
        generalize uF 14 = x28 at h28 hF
        obtain rfl : x28 = (.bool true) := h28
        subst hF
        go_wp2_with (fail)
        exact ⟨rfl, rfl, (Below.refl _ _), rfl⟩
      · intro uF W hC' hU aF hF
        have hC : Below v2.heap.size v2 W := hC'
        clear hC'
        have h28 : (Det (.bool true)) (uF 14) W := hU.1
        clear hU
        simp only [puts, Act.put, List.setIfInBounds_toArray, List.set_cons_zero, List.set_cons_succ] at hF
        generalize uF 14 = x28 at h28 hF
        obtain rfl : x28 = (.bool true) := h28
        subst hF
        go_wp2_with (fail)
        exact ⟨rfl, rfl, (Below.refl _ _), rfl⟩
      · intro uF W hC' hU aF hF
        have hC : Below v2.heap.size v2 W := hC'
        clear hC'
        have h28 : (Det (.bool true)) (uF 14) W := hU.1
        clear hU
        simp only [puts, Act.put, List.setIfInBounds_toArray, List.set_cons_zero, List.set_cons_succ] at hF
        generalize uF 14 = x28 at h28 hF
        obtain rfl : x28 = (.bool true) := h28
        subst hF
        go_wp2_with (((with_reducible show wpList _ _ _ (Oper.mk _ (Op.load 40 _) _ _ _ _ :: _) _ _); refine wpList_load_whole (by rfl) 40 (.tmp 6) rfl g6 rfl (arr8 a) agg44 (by rw [size_arr8, ha]) 40 (c6.below hC c6.lt) ?_))
        exact ⟨rfl, rfl, (Below.refl _ _), rfl⟩
      · intro uF W hC' hU aF hF
        have hC : Below v2.heap.size v2 W := hC'
        clear hC'
        have h28 : (Det (.bool true)) (uF 14) W := hU.1
        clear hU
        simp only [puts, Act.put, List.setIfInBounds_toArray, List.set_cons_zero, List.set_cons_succ] at hF
        generalize uF 14 = x28 at h28 hF
        obtain rfl : x28 = (.bool true) := h28
        subst hF
        go_wp2_with (((with_reducible show wpList _ _ _ (Oper.mk _ (Op.load 40 _) _ _ _ _ :: _) _ _); refine wpList_load_whole (by rfl) 40 (.tmp 7) rfl g7 rfl (arr8 b) agg44 (by rw [size_arr8, hb]) 40 (c7.below hC c7.lt) ?_))
        exact ⟨rfl, rfl, (Below.refl _ _), rfl⟩
      · intro uF W hC' hU aF hF
        have hC : Below v2.heap.size v2 W := hC'
        clear hC'
        have h34 : (Det (.slice A0 n0 c0)) (uF 20) W := hU.1
        have h35 : (Det (.int .i64 i)) (uF 21) W := hU.2.1
        have h36 : (Det (.agg (arr8 a))) (uF 22) W := hU.2.2.1
        have h37 : (Det (.agg (arr8 b))) (uF 23) W := hU.2.2.2.1
        have h28 : (Det (.bool true)) (uF 14) W := hU.2.2.2.2.1
        clear hU
        simp only [puts, Act.put, List.setIfInBounds_toArray, List.set_cons_zero, List.set_cons_succ] at hF
        generalize uF 20 = x34 at h34 hF
        generalize uF 21 = x35 at h35 hF
        generalize uF 22 = x36 at h36 hF
        generalize uF 23 = x37 at h37 hF
        generalize uF 14 = x28 at h28 hF
        obtain rfl : x34 = (.slice A0 n0 c0) := h34
        obtain rfl : x35 = (.int .i64 i) := h35
        obtain rfl : x36 = (.agg (arr8 a)) := h36
        obtain rfl : x37 = (.agg (arr8 b)) := h37
        obtain rfl : x28 = (.bool true) := h28
        subst hF
        go_wp2_with ((go_at_call 56; refine (refjoin_c (hk0.below (hC.mono hz2)) (Nat.le_trans hz2 hC.size) (by omega) i a b ha hb).mono ?_; rintro e W1 ⟨rfl, hb⟩; rw [← HJJ.out]))
        exact ⟨rfl, rfl, hb, rfl⟩
      · intro uF W hC' hU aF hF
        have hC : Below v2.heap.size v2 W := hC'
        clear hC'
        have h33 : (Det (.agg (arr8 jj))) (uF 19) W := hU.1
        have h38 : (Det (.agg (arr8 jj))) (uF 24) W := hU.2.1
        have h28 : (Det (.bool true)) (uF 14) W := hU.2.2.1
        clear hU
        simp only [puts, Act.put, List.setIfInBounds_toArray, List.set_cons_zero, List.set_cons_succ] at hF
        generalize uF 19 = x33 at h33 hF
        generalize uF 24 = x38 at h38 hF
        generalize uF 14 = x28 at h28 hF
        obtain rfl : x33 = (.agg (arr8 jj)) := h33
        obtain rfl : x38 = (.agg (arr8 jj)) := h38
        obtain rfl : x28 = (.bool true) := h28
        subst hF
        have he := eq44 jj jj hlj hlj true (by simp)
        have hg := guard44
        go_wp2_with (fail)
        exact ⟨rfl, rfl, (Below.refl _ _), rfl⟩
      · intro uF W hC' hU aF hF
        have hC : Below v2.heap.size v2 W := hC'
        clear hC'
        have h28 : (Det (.bool true)) (uF 14) W := hU.1
        have h39 : (Det (.bool true)) (uF 25) W := hU.2.1
        clear hU
        simp only [puts, Act.put, List.setIfInBounds_toArray, List.set_cons_zero, List.set_cons_succ] at hF
        generalize uF 14 = x28 at h28 hF
        generalize uF 25 = x39 at h39 hF
        obtain rfl : x28 = (.bool true) := h28
        obtain rfl : x39 = (.bool true) := h39
        subst hF
        go_wp2_with (fail)
        exact ⟨rfl, rfl, (Below.refl _ _), rfl⟩
      · intro uF W hC' hU aF hF
        have hC : Below v2.heap.size v2 W := hC'
        clear hC'
        have h40 : (Det (.bool true)) (uF 26) W := hU.1
        clear hU
        simp only [puts, Act.put, List.setIfInBounds_toArray, List.set_cons_zero, List.set_cons_succ] at hF
        generalize uF 26 = x40 at h40 hF
        obtain rfl : x40 = (.bool true) := h40
        subst hF
        go_wp2_with (fail)
        exact ⟨rfl, rfl, (Below.refl _ _), rfl⟩
    intro uF v6 hC' hU aF hF
    have hCv6 : Below v2.heap.size v2 v6 := hC'
    clear hC'
    have h8 : (Det (.bool true)) (uF 27) v6 := hU.2.2.2.2.2.2.2.2.2.2.2.2.2.2.2.2.2.2.2.2.2.2.2.2.2.2.2.1
    clear hU
    simp only [puts, Act.put, List.setIfInBounds_toArray, List.set_cons_zero, List.set_cons_succ] at hF
    generalize uF 0 = x14 at hF
    generalize uF 1 = x15 at hF
    generalize uF 2 = x16 at hF
    generalize uF 3 = x17 at hF
    generalize uF 4 = x18 at hF
    generalize uF 5 = x19 at hF
    generalize uF 6 = x20 at hF
    generalize uF 7 = x21 at hF
    generalize uF 8 = x22 at hF
    generalize uF 9 = x23 at hF
    generalize uF 10 = x24 at hF
    generalize uF 11 = x25 at hF
    generalize uF 12 = x26 at hF
    generalize uF 13 = x27 at hF
    generalize uF 14 = x28 at hF
    generalize uF 15 = x29 at hF
    generalize uF 16 = x30 at hF
    generalize uF 17 = x31 at hF
    generalize uF 18 = x32 at hF
    generalize uF 19 = x33 at hF
    generalize uF 20 = x34 at hF
    generalize uF 21 = x35 at hF
    generalize uF 22 = x36 at hF
    generalize uF 23 = x37 at hF
    generalize uF 24 = x38 at hF
    generalize uF 25 = x39 at hF
    generalize uF 26 = x40 at hF
    generalize uF 27 = x8 at h8 hF
    obtain rfl : x8 = (.bool true) := h8
    subst hF
    go_wp2_with fail
    go_ret
    exact ⟨rfl, hv2.trans (hCv6.mono hz2)⟩

set_option maxHeartbeats 1000000 in
theorem walk (cs0 : List Value) (w : World) (R0 : Rds w (.cons (.slice (.int .u8) 1 1) (.cons (.int .i64) (.cons (.arr 32 (.int .u8)) (.cons (.arr 32 (.int .u8)) .nil)))) cs0) :
    Calls Try.prog 6 #[.agg cs0.toArray] w fun e w' => e = .returned (.bool true) ∧ Below w.heap.size w w' := by
  obtain ⟨_, _, rfl, r0, _, _, rfl, r1, _, _, rfl, r2, _, _, rfl, r3, rfl⟩ := R0
  obtain ⟨A0, n0, c0, bs0, rfl, w0, y0⟩ := Rds.bytes r0
  obtain ⟨i, rfl, hx1⟩ := r1
  obtain ⟨a, rfl, ha⟩ := Rds.arr8 r2
  obtain ⟨b, rfl, hb⟩ := Rds.arr8 r3
  clear r0 r2 r3
  simp only [List.cons_append, List.nil_append, List.append_nil]
  obtain ⟨cs, hcs⟩ : ∃ cs : Array Value, cs = (Value.slice A0 n0 c0 :: Value.int .i64 i :: (a.map b8 ++ b.map b8)).toArray := ⟨_, rfl⟩
  rw [← hcs]
  have B1 := Blk.new w 44 cs
  have hb1 := below_alloc w (.cells cs 44)
  obtain ⟨v, hv⟩ : ∃ v, v = w.alloc (.cells cs 44) := ⟨_, rfl⟩
  rw [← hv] at B1 hb1
  have e0 : cs[0]? = some (.slice A0 n0 c0) := by rw [hcs]; rfl
  have e1 : cs[1]? = some (.int .i64 i) := by rw [hcs]; rfl
  have e2 : ∀ j u, (arr8 a)[j]? = some u → v.cell? ⟨w.heap.size, 2 + j, none⟩ = some u := fun j u hu => by
    rw [B1.cell, hcs]
    rw [arr8_get] at hu
    have hj : j < a.length := by
      rcases Nat.lt_or_ge j a.length with h | h
      · exact h
      · rw [List.getElem?_eq_none h] at hu; cases hu
    simp only [List.getElem?_toArray, show 2 + j = j + 1 + 1 by omega, List.getElem?_cons_succ]
    rw [List.getElem?_append_left (by simpa using hj), List.getElem?_map]
    exact hu
  have e3 : ∀ j u, (arr8 b)[j]? = some u → v.cell? ⟨w.heap.size, 34 + j, none⟩ = some u := fun j u hu => by
    rw [B1.cell, hcs]
    rw [arr8_get] at hu
    simp only [List.getElem?_toArray, show 34 + j = 32 + j + 1 + 1 by omega, List.getElem?_cons_succ]
    rw [List.getElem?_append_right (by simp [ha]), List.getElem?_map, List.length_map, ha, show 32 + j - 32 = j by omega]
    exact hu
  have h := joins_c ((w0.below hb1).more hb1.size) y0 i a b ha hb
  have HV := Lib.hid hv
  have hx : ∀ (T : TypeId), Value.cells (.agg cs) = cs := fun _ => rfl
  clear w0 hcs hv
  go_enter Try.func6, Try.ntmps6
  go_wp2_with (first
    | ((with_reducible show wpList _ _ _ (Oper.mk _ (Op.load 40 (.tmp 7)) _ _ _ _ :: _) _ _); refine wpList_load_agg rfl 40 (.tmp 7) rfl w.heap.size 2 rfl (arr8 a) agg44 (by rw [size_arr8, ha]) (by rw [← HV.out]; exact e2) ?_)
    | ((with_reducible show wpList _ _ _ (Oper.mk _ (Op.load 40 (.tmp 9)) _ _ _ _ :: _) _ _); refine wpList_load_agg rfl 40 (.tmp 9) rfl w.heap.size 34 rfl (arr8 b) agg44 (by rw [size_arr8, hb]) (by rw [← HV.out]; exact e3) ?_)
    | (go_at_call 26; rw [← HV.out]; refine h.mono ?_; rintro e v2 ⟨rfl, hb2⟩))
  go_ret
  exact ⟨rfl, hb1.trans (hb2.mono hb1.size)⟩
end Go.Proofs.Ytbjiokjmidipaaa.treeJoins

