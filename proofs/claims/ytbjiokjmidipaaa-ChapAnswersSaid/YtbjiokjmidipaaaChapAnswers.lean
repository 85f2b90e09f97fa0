/-
  ChapAnswers: which answer every challenge has.
-/
import Derived.Test.YtbjiokjmidipaaaChap
namespace Go.Proofs.Ytbjiokjmidipaaa.chapAnswers
open Go.RowKit
set_option linter.unusedVariables false
set_option linter.unusedSimpArgs false
set_option maxRecDepth 100000

theorem not_zero : (ansOf 1 [] [] == z8' 32) = false := by decide +kernel
theorem build44 (w : World) : (Instr.build 40 #[]).run Try.prog w = .ok (.agg (arr8 (z8' 32))) w := by kernel_rfl

set_option maxHeartbeats 1000000 in
theorem walk (a0 : Int) (A1 : Option Addr) (n1 c1 : Nat) (bs1 : List UInt8) (A2 : Option Addr) (n2 c2 : Nat) (bs2 : List UInt8) (w : World) (x0 : (Lit.int .i64 a0).wf = true) (w1 : SlB w w.heap.size A1 n1 c1 bs1) (y1 : c1 ≤ 140737488351232) (w2 : SlB w w.heap.size A2 n2 c2 bs2) (y2 : c2 ≤ 140737488351232) :
    Calls Try.prog 12 #[.int .i64 a0, .slice A1 n1 c1, .slice A2 n2 c2] w fun e w' => e = .returned (.bool true) ∧ Below w.heap.size w w' := by
  have hnb1 : n1 ≤ 140737488351232 := Nat.le_trans w1.le y1
  have hnb2 : n2 ≤ 140737488351232 := Nat.le_trans w2.le y2
  by_cases hbig : 4096 < n1 + n2
  · have hbi : (4096 : Int) < (n1 : Int) + (n2 : Int) := by omega
    clear w1 w2
    go_enter Try.func12, Try.ntmps12
    go_wp2_with fail
    go_ret
    exact ⟨rfl, Below.refl _ _⟩
  · have hbi : ¬ (4096 : Int) < (n1 : Int) + (n2 : Int) := by omega
    have W1 := Lib.hid w1
    have W2 := Lib.hid w2
    have hl1 := Lib.hid w1.len
    have hl2 := Lib.hid w2.len
    clear w1 w2
    go_enter Try.func12, Try.ntmps12
    go_wp2_with (first
      | (go_at_call 35; (with_reducible show Calls _ _ #[.slice A1 n1 c1] w _); refine (copy_c W1.out (Nat.le_refl _) (by omega)).mono ?_; rintro e v2 ⟨rfl, hm2, hb2⟩; have hz2 := hb2.size)
      | (go_at_call 35; (with_reducible show Calls _ _ #[.slice A2 n2 c2] v2 _); refine (copy_c (W2.out.below hb2) hz2 (by omega)).mono ?_; rintro e v3 ⟨rfl, hm3, hb3⟩; have hb23 := hb2.trans (hb3.mono hz2); have hz3 := hb23.size; have hm23 := hm2.below hb3)
      | (go_at_call 36; have hk3 : SlB v3 v3.heap.size (some ⟨w.heap.size, 0, none⟩) n1 (n1 + 2) bs1 := (by have := (hm23.sl).trim (k := n1) (by omega); rwa [List.take_left' hl1.out] at this); have ht3 : SlB v3 v3.heap.size (some ⟨v2.heap.size, 0, none⟩) n2 (n2 + 2) bs2 := (by have := (hm3.sl).trim (k := n2) (by omega); rwa [List.take_left' hl2.out] at this); refine (answer_c a0 hk3 ht3 (Nat.le_refl _) (by omega) (by omega)).mono ?_; rintro e v4 ⟨rfl, hb4⟩; have b4 := Blk.new v4 40 (arr8 (z8' 32)))
      | ((with_reducible show wpList _ _ _ (Oper.mk _ (Op.alloc 40) _ _ _ _ :: _) _ _); refine wpList_alloc_agg rfl 40 rfl (arr8 (z8' 32)) zero44 ?_; (try rw [World.size_alloc]))
      | ((with_reducible show wpList _ _ _ (Oper.mk none (Op.store 40 (.tmp 9) _) _ _ _ _ :: _) _ _); refine wpList_store8 rfl 40 (.tmp 9) (.tmp 23) rfl v4.heap.size rfl (ansOf a0 bs1 bs2) rfl agg44 (len_ansOf _ _ _) _ _ b4 (by rw [size_arr8, len_z8']) ?_; intro v5 hb5 hg5 hs5; simp only [Act.put, List.setIfInBounds_toArray, List.set_cons_succ, List.set_cons_zero]))
    have h35 : Below v3.heap.size v3 v5 := ((hb4).alloc (hb4).size _).grown hg5 (Nat.le_trans hb4.size (by simp)) (fun k hk => by cases hk; exact hb4.size)
    have hw5 : Below w.heap.size w v5 := hb23.trans (h35.mono hz3)
    have hz5 := hw5.size
    have hk5 := (hm23.below h35).sl
    have ht5 := (hm3.below h35).sl
    have hk0 := W1.out.below hw5
    have ht0 := W2.out.below hw5
    clear hs5 hg5 b4 hb4 ht3 hk3 h35 hb3 hz3 hm3 hm2 hm23 hb23 hb2 hz2
    refine wp_region_rel (fun W W' => Below W.heap.size W W') (fun W => Below v5.heap.size v5 W)
      [Det (.agg (arr8 (ansOf 1 [] []))), Det (.agg (arr8 (z8' 32))), Det (.bool true), Det (.bool true), Det (.agg (arr8 (ansOf a0 bs1 bs2))), Det (.int .i64 a0), Det (.slice A1 n1 c1), Det (.slice A2 n2 c2), Det (.agg (arr8 (ansOf a0 bs1 bs2))), Det (.bool true), Det (.bool true), Det (.bool true), Det (.slice (some ⟨w.heap.size, 0, none⟩) n1 (n1 + 2)), Det (.slice A1 n1 c1), Det (.bool true), Det (.bool true), Det (.bool true), Det (.slice (some ⟨v2.heap.size, 0, none⟩) n2 (n2 + 2)), Det (.slice A2 n2 c2), Det (.bool true), Det (.bool true), Det (.bool true)]
      [[], [], [(0, some 24), (1, some 25)], [(2, some 26)], [(3, some 27)], [(3, some 27)], [(3, some 27)], [(3, some 27)], [(5, some 29), (6, some 30), (7, some 31), (3, some 27)], [(4, some 28), (8, some 32), (3, some 27)], [(3, some 27), (9, some 33)], [(10, some 34)], [(11, some 35)], [(11, some 35)], [(12, some 36), (13, some 37), (11, some 35)], [(11, some 35), (14, some 38)], [(15, some 39)], [(16, some 40)], [(16, some 40)], [(17, some 41), (18, some 42), (16, some 40)], [(16, some 40), (19, some 43)], [(20, some 44)]]
      [[], [], [0, 1], [0, 1, 2], [0, 1, 2, 3], [0, 1, 2, 3], [0, 1, 2, 3], [0, 1, 2, 3], [0, 1, 2, 3, 5, 6, 7], [0, 1, 2, 3, 4, 5, 6, 7, 8], [0, 1, 2, 3, 4, 5, 6, 7, 8, 9], [0, 1, 2, 3, 4, 5, 6, 7, 8, 9, 10], [0, 1, 2, 3, 4, 5, 6, 7, 8, 9, 10, 11], [0, 1, 2, 3, 4, 5, 6, 7, 8, 9, 10, 11], [0, 1, 2, 3, 4, 5, 6, 7, 8, 9, 10, 11, 12, 13], [0, 1, 2, 3, 4, 5, 6, 7, 8, 9, 10, 11, 12, 13, 14], [0, 1, 2, 3, 4, 5, 6, 7, 8, 9, 10, 11, 12, 13, 14, 15], [0, 1, 2, 3, 4, 5, 6, 7, 8, 9, 10, 11, 12, 13, 14, 15, 16], [0, 1, 2, 3, 4, 5, 6, 7, 8, 9, 10, 11, 12, 13, 14, 15, 16], [0, 1, 2, 3, 4, 5, 6, 7, 8, 9, 10, 11, 12, 13, 14, 15, 16, 17, 18], [0, 1, 2, 3, 4, 5, 6, 7, 8, 9, 10, 11, 12, 13, 14, 15, 16, 17, 18, 19], [0, 1, 2, 3, 4, 5, 6, 7, 8, 9, 10, 11, 12, 13, 14, 15, 16, 17, 18, 19, 20]]
      [(0, some 24), (1, some 25), (2, some 26), (3, some 27), (4, some 28), (5, some 29), (6, some 30), (7, some 31), (8, some 32), (9, some 33), (10, some 34), (11, some 35), (12, some 36), (13, some 37), (14, some 38), (15, some 39), (16, some 40), (17, some 41), (18, some 42), (19, some 43), (20, some 44), (21, some 6)] (by kernel_rfl) (by kernel_rfl) (fun W W' h1 h2 => h1.trans (h2.mono h1.size)) ((Below.refl _ _).drew) ?_ ?_ ?_
    · exact (AllMono.cons Det.later (AllMono.cons Det.later (AllMono.cons Det.later (AllMono.cons Det.later (AllMono.cons Det.later (AllMono.cons Det.later (AllMono.cons Det.later (AllMono.cons Det.later (AllMono.cons Det.later (AllMono.cons Det.later (AllMono.cons Det.later (AllMono.cons Det.later (AllMono.cons Det.later (AllMono.cons Det.later (AllMono.cons Det.later (AllMono.cons Det.later (AllMono.cons Det.later (AllMono.cons Det.later (AllMono.cons Det.later (AllMono.cons Det.later (AllMono.cons Det.later (AllMono.cons Det.later AllMono.nil))))))))))))))))))))))
    · refine AllOb.cons ?_ (AllOb.cons ?_ (AllOb.cons ?_ (AllOb.cons ?_ (AllOb.cons ?_ (AllOb.cons ?_ (AllOb.cons ?_ (AllOb.cons ?_ (AllOb.cons ?_ (AllOb.cons ?_ (AllOb.cons ?_ (AllOb.cons ?_ (AllOb.cons ?_ (AllOb.cons ?_ (AllOb.cons ?_ (AllOb.cons ?_ (AllOb.cons ?_ (AllOb.cons ?_ (AllOb.cons ?_ (AllOb.cons ?_ (AllOb.cons ?_ (AllOb.cons ?_ (AllOb.nil))))))))))))))))))))))
      · intro uF W hC' hU aF hF
        have hC : Below v5.heap.size v5 W := hC'
        clear hC'
        simp only [puts] at hF
        subst hF
        go_wp2_with ((go_at_call 36; refine (answer_c 1 (SlB.nil W W.heap.size none) (SlB.nil W W.heap.size none) (Nat.le_refl _) (by omega) (by omega)).mono ?_; rintro e W1 ⟨rfl, hb⟩))
        exact ⟨rfl, rfl, hb, rfl⟩
      · intro uF W hC' hU aF hF
        have hC : Below v5.heap.size v5 W := hC'
        clear hC'
        simp only [puts] at hF
        subst hF
        have hbd := build44
        go_wp2_with (fail)
        exact ⟨rfl, rfl, (Below.refl _ _), rfl⟩
      · intro uF W hC' hU aF hF
        have hC : Below v5.heap.size v5 W := hC'
        clear hC'
        have h24 : (Det (.agg (arr8 (ansOf 1 [] [])))) (uF 0) W := hU.1
        have h25 : (Det (.agg (arr8 (z8' 32)))) (uF 1) W := hU.2.1
        clear hU
        simp only [puts, Act.put, List.setIfInBounds_toArray, List.set_cons_zero, List.set_cons_succ] at hF
        generalize uF 0 = x24 at h24 hF
        generalize uF 1 = x25 at h25 hF
        obtain rfl : x24 = (.agg (arr8 (ansOf 1 [] []))) := h24
        obtain rfl : x25 = (.agg (arr8 (z8' 32))) := h25
        subst hF
        have he := eq44 (ansOf 1 [] []) (z8' 32) (len_ansOf _ _ _) (len_z8' _) false not_zero
        have hg := guard44
        go_wp2_with (fail)
        exact ⟨rfl, rfl, (Below.refl _ _), rfl⟩
      · intro uF W hC' hU aF hF
        have hC : Below v5.heap.size v5 W := hC'
        clear hC'
        have h26 : (Det (.bool true)) (uF 2) W := hU.1
        clear hU
        simp only [puts, Act.put, List.setIfInBounds_toArray, List.set_cons_zero, List.set_cons_succ] at hF
        generalize uF 2 = x26 at h26 hF
        obtain rfl : x26 = (.bool true) := h26
        subst hF
        go_wp2_with (fail)
        exact ⟨rfl, rfl, (Below.refl _ _), rfl⟩
      · intro uF W hC' hU aF hF
        have hC : Below v5.heap.size v5 W := hC'
        clear hC'
        have h27 : (Det (.bool true)) (uF 3) W := hU.1
        clear hU
        simp only [puts, Act.put, List.setIfInBounds_toArray, List.set_cons_zero, List.set_cons_succ] at hF
        generalize uF 3 = x27 at h27 hF
        obtain rfl : x27 = (.bool true) := h27
        subst hF
        go_wp2_with (((with_reducible show wpList _ _ _ (Oper.mk _ (Op.load 40 _) _ _ _ _ :: _) _ _); refine wpList_load_whole (by rfl) 40 (.tmp 9) rfl v4.heap.size rfl (arr8 (ansOf a0 bs1 bs2)) agg44 (by rw [size_arr8, len_ansOf]) 40 (hb5.below hC hb5.lt) ?_))
        exact ⟨rfl, rfl, (Below.refl _ _), rfl⟩
      · intro uF W hC' hU aF hF
        have hC : Below v5.heap.size v5 W := hC'
        clear hC'
        have h27 : (Det (.bool true)) (uF 3) W := hU.1
        clear hU
        simp only [puts, Act.put, List.setIfInBounds_toArray, List.set_cons_zero, List.set_cons_succ] at hF
        generalize uF 3 = x27 at h27 hF
        obtain rfl : x27 = (.bool true) := h27
        subst hF
        go_wp2_with (fail)
        exact ⟨rfl, rfl, (Below.refl _ _), rfl⟩
      · intro uF W hC' hU aF hF
        have hC : Below v5.heap.size v5 W := hC'
        clear hC'
        have h27 : (Det (.bool true)) (uF 3) W := hU.1
        clear hU
        simp only [puts, Act.put, List.setIfInBounds_toArray, List.set_cons_zero, List.set_cons_succ] at hF
        generalize uF 3 = x27 at h27 hF
        obtain rfl : x27 = (.bool true) := h27
        subst hF
        go_wp2_with (fail)
        exact ⟨rfl, rfl, (Below.refl _ _), rfl⟩
      · intro uF W hC' hU aF hF
        have hC : Below v5.heap.size v5 W := hC'
        clear hC'
        have h27 : (Det (.bool true)) (uF 3) W := hU.1
        clear hU
        simp only [puts, Act.put, List.setIfInBounds_toArray, List.set_cons_zero, List.set_cons_succ] at hF
        generalize uF 3 = x27 at h27 hF
        obtain rfl : x27 = (.bool true) := h27
        subst hF
        go_wp2_with (fail)
        exact ⟨rfl, rfl, (Below.refl _ _), rfl⟩
      · intro uF W hC' hU aF hF
        have hC : Below v5.heap.size v5 W := hC'
        clear hC'
        have h29 : (Det (.int .i64 a0)) (uF 5) W := hU.1
        have h30 : (Det (.slice A1 n1 c1)) (uF 6) W := hU.2.1
        have h31 : (Det (.slice A2 n2 c2)) (uF 7) W := hU.2.2.1
        have h27 : (Det (.bool true)) (uF 3) W := hU.2.2.2.1
        clear hU
        simp only [puts, Act.put, List.setIfInBounds_toArray, List.set_cons_zero, List.set_cons_succ] at hF
        generalize uF 5 = x29 at h29 hF
        generalize uF 6 = x30 at h30 hF
        generalize uF 7 = x31 at h31 hF
        generalize uF 3 = x27 at h27 hF
        obtain rfl : x29 = (.int .i64 a0) := h29
        obtain rfl : x30 = (.slice A1 n1 c1) := h30
        obtain rfl : x31 = (.slice A2 n2 c2) := h31
        obtain rfl : x27 = (.bool true) := h27
        subst hF
        go_wp2_with ((go_at_call 37; refine (refanswer_c a0 (hk0.below (hC.mono hz5)) (ht0.below (hC.mono hz5)) (Nat.le_trans hz5 hC.size) (by omega) (by omega)).mono ?_; rintro e W1 ⟨rfl, hb⟩))
        exact ⟨rfl, rfl, hb, rfl⟩
      · intro uF W hC' hU aF hF
        have hC : Below v5.heap.size v5 W := hC'
        clear hC'
        have h28 : (Det (.agg (arr8 (ansOf a0 bs1 bs2)))) (uF 4) W := hU.1
        have h32 : (Det (.agg (arr8 (ansOf a0 bs1 bs2)))) (uF 8) W := hU.2.1
        have h27 : (Det (.bool true)) (uF 3) W := hU.2.2.1
        clear hU
        simp only [puts, Act.put, List.setIfInBounds_toArray, List.set_cons_zero, List.set_cons_succ] at hF
        generalize uF 4 = x28 at h28 hF
        generalize uF 8 = x32 at h32 hF
        generalize uF 3 = x27 at h27 hF
        obtain rfl : x28 = (.agg (arr8 (ansOf a0 bs1 bs2))) := h28
        obtain rfl : x32 = (.agg (arr8 (ansOf a0 bs1 bs2))) := h32
        obtain rfl : x27 = (.bool true) := h27
        subst hF
        have he := eq44 (ansOf a0 bs1 bs2) (ansOf a0 bs1 bs2) (len_ansOf _ _ _) (len_ansOf _ _ _) true (by simp)
        have hg := guard44
        go_wp2_with (fail)
        exact ⟨rfl, rfl, (Below.refl _ _), rfl⟩
      · intro uF W hC' hU aF hF
        have hC : Below v5.heap.size v5 W := hC'
        clear hC'
        have h27 : (Det (.bool true)) (uF 3) W := hU.1
        have h33 : (Det (.bool true)) (uF 9) W := hU.2.1
        clear hU
        simp only [puts, Act.put, List.setIfInBounds_toArray, List.set_cons_zero, List.set_cons_succ] at hF
        generalize uF 3 = x27 at h27 hF
        generalize uF 9 = x33 at h33 hF
        obtain rfl : x27 = (.bool true) := h27
        obtain rfl : x33 = (.bool true) := h33
        subst hF
        go_wp2_with (fail)
        exact ⟨rfl, rfl, (Below.refl _ _), rfl⟩
      · intro uF W hC' hU aF hF
        have hC : Below v5.heap.size v5 W := hC'
        clear hC'
        have h34 : (Det (.bool true)) (uF 10) W := hU.1
        clear hU
        simp only [puts, Act.put, List.setIfInBounds_toArray, List.set_cons_zero, List.set_cons_succ] at hF
        generalize uF 10 = x34 at h34 hF
        obtain rfl : x34 = (.bool true) := h34
        subst hF
        go_wp2_with (fail)
        exact ⟨rfl, rfl, (Below.refl _ _), rfl⟩
      · intro uF W hC' hU aF hF
        have hC : Below v5.heap.size v5 W := hC'
        clear hC'
        have h35 : (Det (.bool true)) (uF 11) W := hU.1
        clear hU
        simp only [puts, Act.put, List.setIfInBounds_toArray, List.set_cons_zero, List.set_cons_succ] at hF
        generalize uF 11 = x35 at h35 hF
        obtain rfl : x35 = (.bool true) := h35
        subst hF
        go_wp2_with (fail)
        exact ⟨rfl, rfl, (Below.refl _ _), rfl⟩
      · intro uF W hC' hU aF hF
        have hC : Below v5.heap.size v5 W := hC'
        clear hC'
        have h35 : (Det (.bool true)) (uF 11) W := hU.1
        clear hU
        simp only [puts, Act.put, List.setIfInBounds_toArray, List.set_cons_zero, List.set_cons_succ] at hF
        generalize uF 11 = x35 at h35 hF
        obtain rfl : x35 = (.bool true) := h35
        subst hF
        go_wp2_with (fail)
        exact ⟨rfl, rfl, (Below.refl _ _), rfl⟩
      · intro uF W hC' hU aF hF
        have hC : Below v5.heap.size v5 W := hC'
        clear hC'
        have h36 : (Det (.slice (some ⟨w.heap.size, 0, none⟩) n1 (n1 + 2))) (uF 12) W := hU.1
        have h37 : (Det (.slice A1 n1 c1)) (uF 13) W := hU.2.1
        have h35 : (Det (.bool true)) (uF 11) W := hU.2.2.1
        clear hU
        simp only [puts, Act.put, List.setIfInBounds_toArray, List.set_cons_zero, List.set_cons_succ] at hF
        generalize uF 12 = x36 at h36 hF
        generalize uF 13 = x37 at h37 hF
        generalize uF 11 = x35 at h35 hF
        obtain rfl : x36 = (.slice (some ⟨w.heap.size, 0, none⟩) n1 (n1 + 2)) := h36
        obtain rfl : x37 = (.slice A1 n1 c1) := h37
        obtain rfl : x35 = (.bool true) := h35
        subst hF
        go_wp2_with ((go_at_call 38; refine (kept_c (hk5.below hC) (hk0.below (hC.mono hz5)) (by omega)).mono ?_; rintro e W1 ⟨rfl, rfl⟩))
        exact ⟨rfl, rfl, (Below.refl _ _), rfl⟩
      · intro uF W hC' hU aF hF
        have hC : Below v5.heap.size v5 W := hC'
        clear hC'
        have h35 : (Det (.bool true)) (uF 11) W := hU.1
        have h38 : (Det (.bool true)) (uF 14) W := hU.2.1
        clear hU
        simp only [puts, Act.put, List.setIfInBounds_toArray, List.set_cons_zero, List.set_cons_succ] at hF
        generalize uF 11 = x35 at h35 hF
        generalize uF 14 = x38 at h38 hF
        obtain rfl : x35 = (.bool true) := h35
        obtain rfl : x38 = (.bool true) := h38
        subst hF
        go_wp2_with (fail)
        exact ⟨rfl, rfl, (Below.refl _ _), rfl⟩
      · intro uF W hC' hU aF hF
        have hC : Below v5.heap.size v5 W := hC'
        clear hC'
        have h39 : (Det (.bool true)) (uF 15) W := hU.1
        clear hU
        simp only [puts, Act.put, List.setIfInBounds_toArray, List.set_cons_zero, List.set_cons_succ] at hF
        generalize uF 15 = x39 at h39 hF
        obtain rfl : x39 = (.bool true) := h39
        subst hF
        go_wp2_with (fail)
        exact ⟨rfl, rfl, (Below.refl _ _), rfl⟩
      · intro uF W hC' hU aF hF
        have hC : Below v5.heap.size v5 W := hC'
        clear hC'
        have h40 : (Det (.bool true)) (uF 16) W := hU.1
        clear hU
        simp only [puts, Act.put, List.setIfInBounds_toArray, List.set_cons_zero, List.set_cons_succ] at hF
        generalize uF 16 = x40 at h40 hF
        obtain rfl : x40 = (.bool true) := h40
        subst hF
        go_wp2_with (fail)
        exact ⟨rfl, rfl, (Below.refl _ _), rfl⟩
      · intro uF W hC' hU aF hF
        have hC : Below v5.heap.size v5 W := hC'
        clear hC'
        have h40 : (Det (.bool true)) (uF 16) W := hU.1
        clear hU
        simp only [puts, Act.put, List.setIfInBounds_toArray, List.set_cons_zero, List.set_cons_succ] at hF
        generalize uF 16 = x40 at h40 hF
        obtain rfl : x40 = (.bool true) := h40
        subst hF
        go_wp2_with (fail)
        exact ⟨rfl, rfl, (Below.refl _ _), rfl⟩
      · intro uF W hC' hU aF hF
        have hC : Below v5.heap.size v5 W := hC'
        clear hC'
        have h41 : (Det (.slice (some ⟨v2.heap.size, 0, none⟩) n2 (n2 + 2))) (uF 17) W := hU.1
        have h42 : (Det (.slice A2 n2 c2)) (uF 18) W := hU.2.1
        have h40 : (Det (.bool true)) (uF 16) W := hU.2.2.1
        clear hU
        simp only [puts, Act.put, List.setIfInBounds_toArray, List.set_cons_zero, List.set_cons_succ] at hF
        generalize uF 17 = x41 at h41 hF
        generalize uF 18 = x42 at h42 hF
        generalize uF 16 = x40 at h40 hF
        obtain rfl : x41 = (.slice (some ⟨v2.heap.size, 0, none⟩) n2 (n2 + 2)) := h41
        obtain rfl : x42 = (.slice A2 n2 c2) := h42
        obtain rfl : x40 = (.bool true) := h40
        subst hF
        go_wp2_with ((go_at_call 38; refine (kept_c (ht5.below hC) (ht0.below (hC.mono hz5)) (by omega)).mono ?_; rintro e W1 ⟨rfl, rfl⟩))
        exact ⟨rfl, rfl, (Below.refl _ _), rfl⟩
      · intro uF W hC' hU aF hF
        have hC : Below v5.heap.size v5 W := hC'
        clear hC'
        have h40 : (Det (.bool true)) (uF 16) W := hU.1
        have h43 : (Det (.bool true)) (uF 19) W := hU.2.1
        clear hU
        simp only [puts, Act.put, List.setIfInBounds_toArray, List.set_cons_zero, List.set_cons_succ] at hF
        generalize uF 16 = x40 at h40 hF
        generalize uF 19 = x43 at h43 hF
        obtain rfl : x40 = (.bool true) := h40
        obtain rfl : x43 = (.bool true) := h43
        subst hF
        go_wp2_with (fail)
        exact ⟨rfl, rfl, (Below.refl _ _), rfl⟩
      · intro uF W hC' hU aF hF
        have hC : Below v5.heap.size v5 W := hC'
        clear hC'
        have h44 : (Det (.bool true)) (uF 20) W := hU.1
        clear hU
        simp only [puts, Act.put, List.setIfInBounds_toArray, List.set_cons_zero, List.set_cons_succ] at hF
        generalize uF 20 = x44 at h44 hF
        obtain rfl : x44 = (.bool true) := h44
        subst hF
        go_wp2_with (fail)
        exact ⟨rfl, rfl, (Below.refl _ _), rfl⟩
    intro uF v6 hC' hU aF hF
    have hCv6 : Below v5.heap.size v5 v6 := hC'
    clear hC'
    have h6 : (Det (.bool true)) (uF 21) v6 := hU.2.2.2.2.2.2.2.2.2.2.2.2.2.2.2.2.2.2.2.2.2.1
    clear hU
    simp only [puts, Act.put, List.setIfInBounds_toArray, List.set_cons_zero, List.set_cons_succ] at hF
    generalize uF 0 = x24 at hF
    generalize uF 1 = x25 at hF
    generalize uF 2 = x26 at hF
    generalize uF 3 = x27 at hF
    generalize uF 4 = x28 at hF
    generalize uF 5 = x29 at hF
    generalize uF 6 = x30 at hF
    generalize uF 7 = x31 at hF
    generalize uF 8 = x32 at hF
    generalize uF 9 = x33 at hF
    generalize uF 10 = x34 at hF
    generalize uF 11 = x35 at hF
    generalize uF 12 = x36 at hF
    generalize uF 13 = x37 at hF
    generalize uF 14 = x38 at hF
    generalize uF 15 = x39 at hF
    generalize uF 16 = x40 at hF
    generalize uF 17 = x41 at hF
    generalize uF 18 = x42 at hF
    generalize uF 19 = x43 at hF
    generalize uF 20 = x44 at hF
    generalize uF 21 = x6 at h6 hF
    obtain rfl : x6 = (.bool true) := h6
    subst hF
    go_wp2_with fail
    go_ret
    exact ⟨rfl, hw5.trans (hCv6.mono hz5)⟩
end Go.Proofs.Ytbjiokjmidipaaa.chapAnswers

