/-
  ChapBound: an answer isn't right for another number, secret or challenge.
-/
import Derived.Test.YtbjiokjmidipaaaChap
namespace Go.Proofs.Ytbjiokjmidipaaa.chapBound
open Go.RowKit
set_option linter.unusedVariables false
set_option linter.unusedSimpArgs false
set_option maxRecDepth 100000

theorem cells6 {w : World} {g : Nat} {T : TypeId} {a b c d e f : Value} (h : Blk w g T #[a, b, c, d, e, f]) : w.cell? ⟨g, 0, none⟩ = some a ∧ w.cell? ⟨g, 1, none⟩ = some b ∧ w.cell? ⟨g, 2, none⟩ = some c ∧ w.cell? ⟨g, 3, none⟩ = some d ∧ w.cell? ⟨g, 4, none⟩ = some e ∧ w.cell? ⟨g, 5, none⟩ = some f :=
  ⟨h.cell 0, h.cell 1, h.cell 2, h.cell 3, h.cell 4, h.cell 5⟩

set_option maxHeartbeats 4000000 in
theorem walk (cs0 cs1 : List Value) (w : World) (R0 : Rds w (.cons (.int .i64) (.cons (.slice (.int .u8) 1 1) (.cons (.slice (.int .u8) 1 1) (.cons (.slice (.int .u8) 1 1) (.cons .bool (.cons (.int .i64) .nil)))))) cs0)
    (R1 : Rds w (.cons (.int .i64) (.cons (.slice (.int .u8) 1 1) (.cons (.slice (.int .u8) 1 1) (.cons (.slice (.int .u8) 1 1) (.cons .bool (.cons (.int .i64) .nil)))))) cs1) :
    Calls Try.prog 13 #[.agg cs0.toArray, .agg cs1.toArray] w fun e w' => e = .returned (.bool true) ∧ Below w.heap.size w w' := by
  obtain ⟨_, _, rfl, r0, _, _, rfl, r1, _, _, rfl, r2, _, _, rfl, r3, _, _, rfl, r4, _, _, rfl, r5, rfl⟩ := R0
  obtain ⟨a0, rfl, x0⟩ := r0
  obtain ⟨A1, n1, c1, bs1, rfl, w1, y1⟩ := Rds.bytes r1
  obtain ⟨A2, n2, c2, bs2, rfl, w2, y2⟩ := Rds.bytes r2
  obtain ⟨A3, n3, c3, bs3, rfl, w3, y3⟩ := Rds.bytes r3
  obtain ⟨own, rfl⟩ := r4
  obtain ⟨bit, rfl, x5⟩ := r5
  obtain ⟨_, _, rfl, s0, _, _, rfl, s1, _, _, rfl, s2, _, _, rfl, s3, _, _, rfl, s4, _, _, rfl, s5, rfl⟩ := R1
  obtain ⟨b0, rfl, z0⟩ := s0
  obtain ⟨B1, m1, d1, ds1, rfl, u1, z1⟩ := Rds.bytes s1
  obtain ⟨B2, m2, d2, ds2, rfl, u2, z2⟩ := Rds.bytes s2
  obtain ⟨B3, m3, d3, ds3, rfl, u3, z3⟩ := Rds.bytes s3
  obtain ⟨own', rfl⟩ := s4
  obtain ⟨bit', rfl, z5⟩ := s5
  clear r1 r2 r3 s1 s2 s3
  simp only [List.cons_append, List.nil_append]
  have hnb1 : n1 ≤ 140737488351232 := Nat.le_trans w1.le y1
  have hnb2 : n2 ≤ 140737488351232 := Nat.le_trans w2.le y2
  have hmb1 : m1 ≤ 140737488351232 := Nat.le_trans u1.le z1
  have hmb2 : m2 ≤ 140737488351232 := Nat.le_trans u2.le z2
  have hbw := (below_alloc w (.cells #[.int .i64 a0, .slice A1 n1 c1, .slice A2 n2 c2, .slice A3 n3 c3, .bool own, .int .i64 bit] 71))
  have hb1 := hbw.alloc hbw.size (.cells #[.int .i64 b0, .slice B1 m1 d1, .slice B2 m2 d2, .slice B3 m3 d3, .bool own', .int .i64 bit'] 71)
  by_cases hbig : 4096 < n1 + n2 + m1 + m2
  · have hbi : (4096 : Int) < (n1 : Int) + (n2 : Int) + (m1 : Int) + (m2 : Int) := by omega
    clear w1 w2 w3 u1 u2 u3
    go_enter Try.func13, Try.ntmps13
    go_wp2_with fail
    go_ret
    exact ⟨rfl, hb1⟩
  · have hbi : ¬ (4096 : Int) < (n1 : Int) + (n2 : Int) + (m1 : Int) + (m2 : Int) := by omega
    have X1 := (Blk.new w 71 #[.int .i64 a0, .slice A1 n1 c1, .slice A2 n2 c2, .slice A3 n3 c3, .bool own, .int .i64 bit]).alloc (.cells #[.int .i64 b0, .slice B1 m1 d1, .slice B2 m2 d2, .slice B3 m3 d3, .bool own', .int .i64 bit'] 71)
    have Y1 := Blk.new (w.alloc (.cells #[.int .i64 a0, .slice A1 n1 c1, .slice A2 n2 c2, .slice A3 n3 c3, .bool own, .int .i64 bit] 71)) 71 #[.int .i64 b0, .slice B1 m1 d1, .slice B2 m2 d2, .slice B3 m3 d3, .bool own', .int .i64 bit']
    rw [World.size_alloc] at Y1
    obtain ⟨v1, hv1⟩ : ∃ v1, v1 = (w.alloc (.cells #[.int .i64 a0, .slice A1 n1 c1, .slice A2 n2 c2, .slice A3 n3 c3, .bool own, .int .i64 bit] 71)).alloc (.cells #[.int .i64 b0, .slice B1 m1 d1, .slice B2 m2 d2, .slice B3 m3 d3, .bool own', .int .i64 bit'] 71) := ⟨_, rfl⟩
    rw [← hv1] at hb1 X1 Y1
    have hz1 := hb1.size
    have HV := Lib.hid hv1
    have W1 := Lib.hid w1
    have W2 := Lib.hid w2
    have U1 := Lib.hid u1
    have U2 := Lib.hid u2
    clear hv1 w1 w2 w3 u1 u2 u3 hbw
    have hla := len_ansOf a0 bs1 bs2
    have hlb := len_ansOf b0 ds1 ds2
    go_enter Try.func13, Try.ntmps13
    go_wp2_with (first
      | (go_at_call 37; rw [← HV.out]; refine (refanswer_c a0 (W1.out.below hb1) (W2.out.below hb1) hz1 (by omega) (by omega)).mono ?_; rintro e v2 ⟨rfl, hb2⟩; have b3 := Blk.new v2 40 (arr8 (z8' 32)))
      | ((with_reducible show wpList _ _ _ (Oper.mk _ (Op.alloc 40) _ _ _ _ :: _) _ _); refine wpList_alloc_agg rfl 40 rfl (arr8 (z8' 32)) zero44 ?_; (try rw [World.size_alloc]))
      | ((with_reducible show wpList _ _ _ (Oper.mk none (Op.store 40 (.tmp 5) _) _ _ _ _ :: _) _ _); refine wpList_store8 rfl 40 (.tmp 5) (.tmp 30) rfl v2.heap.size rfl (ansOf a0 bs1 bs2) rfl agg44 hla _ _ b3 (by rw [size_arr8, len_z8']) ?_; intro v5 hb5 hg5 hs5; simp only [Act.put, List.setIfInBounds_toArray, List.set_cons_succ, List.set_cons_zero]))
    have h15 : Below v1.heap.size v1 v5 := (hb2.alloc hb2.size _).grown hg5 (Nat.le_trans hb2.size (by simp)) (fun k hk => by cases hk; exact hb2.size)
    have hw5 : Below w.heap.size w v5 := hb1.trans (h15.mono hz1)
    have hz5 := hw5.size
    have X5 := X1.below h15 X1.lt
    have Y5 := Y1.below h15 Y1.lt
    have k1 := W1.out.below hw5
    have k2 := W2.out.below hw5
    have hlt : w.heap.size + 1 < v2.heap.size := Nat.lt_of_lt_of_le Y1.lt hb2.size
    have hall := arr_all_run (P := Try.prog) (T := 40) Try.underlying40 size1 (by omega) v2.heap.size
    clear hs5 hg5 b3 hb2 h15 X1 Y1
    refine wp_region_rel (fun W W' => Below W.heap.size W W') (fun W => Below v5.heap.size v5 W)
      [Det (.pointer (some ⟨w.heap.size, 0, none⟩)), Det (.int .i64 a0), Det (.pointer (some ⟨w.heap.size, 1, none⟩)), Det (.slice A1 n1 c1), Det (.pointer (some ⟨w.heap.size, 2, none⟩)), Det (.slice A2 n2 c2), Det (.slice (some ⟨v2.heap.size, 0, none⟩) 32 32), Det (.bool true), Det (.bool false)]
      [[], [(0, some 31)], [], [(2, some 33)], [], [(4, some 35)], [], [(1, some 32), (3, some 34), (5, some 36), (6, some 37)], [(7, some 38)]]
      [[], [0], [], [2], [], [4], [], [0, 1, 2, 3, 4, 5, 6], [0, 1, 2, 3, 4, 5, 6, 7]]
      [(0, some 31), (1, some 32), (2, some 33), (3, some 34), (4, some 35), (5, some 36), (6, some 37), (7, some 38), (8, some 39)] (by kernel_rfl) (by kernel_rfl) (fun W W' h1 h2 => h1.trans (h2.mono h1.size)) ((Below.refl _ _).drew) ?_ ?_ ?_
    · exact (AllMono.cons Det.later (AllMono.cons Det.later (AllMono.cons Det.later (AllMono.cons Det.later (AllMono.cons Det.later (AllMono.cons Det.later (AllMono.cons Det.later (AllMono.cons Det.later (AllMono.cons Det.later AllMono.nil)))))))))
    · refine AllOb.cons ?_ (AllOb.cons ?_ (AllOb.cons ?_ (AllOb.cons ?_ (AllOb.cons ?_ (AllOb.cons ?_ (AllOb.cons ?_ (AllOb.cons ?_ (AllOb.cons ?_ (AllOb.nil)))))))))
      · intro uF W hC' hU aF hF
        have hC : Below v5.heap.size v5 W := hC'
        clear hC'
        simp only [puts] at hF
        subst hF
        go_wp2_with (fail)
        exact ⟨rfl, rfl, (Below.refl _ _), rfl⟩
      · intro uF W hC' hU aF hF
        have hC : Below v5.heap.size v5 W := hC'
        clear hC'
        have h31 : (Det (.pointer (some ⟨w.heap.size, 0, none⟩))) (uF 0) W := hU.1
        clear hU
        simp only [puts, Act.put, List.setIfInBounds_toArray, List.set_cons_zero, List.set_cons_succ] at hF
        generalize uF 0 = x31 at h31 hF
        obtain rfl : x31 = (.pointer (some ⟨w.heap.size, 0, none⟩)) := h31
        subst hF
        obtain ⟨e0, e1, e2, e3, e4, e5⟩ := cells6 (X5.below hC X5.lt)
        go_wp2_with (fail)
        exact ⟨rfl, rfl, (Below.refl _ _), rfl⟩
      · intro uF W hC' hU aF hF
        have hC : Below v5.heap.size v5 W := hC'
        clear hC'
        simp only [puts] at hF
        subst hF
        go_wp2_with (fail)
        exact ⟨rfl, rfl, (Below.refl _ _), rfl⟩
      · intro uF W hC' hU aF hF
        have hC : Below v5.heap.size v5 W := hC'
        clear hC'
        have h33 : (Det (.pointer (some ⟨w.heap.size, 1, none⟩))) (uF 2) W := hU.1
        clear hU
        simp only [puts, Act.put, List.setIfInBounds_toArray, List.set_cons_zero, List.set_cons_succ] at hF
        generalize uF 2 = x33 at h33 hF
        obtain rfl : x33 = (.pointer (some ⟨w.heap.size, 1, none⟩)) := h33
        subst hF
        obtain ⟨e0, e1, e2, e3, e4, e5⟩ := cells6 (X5.below hC X5.lt)
        go_wp2_with (fail)
        exact ⟨rfl, rfl, (Below.refl _ _), rfl⟩
      · intro uF W hC' hU aF hF
        have hC : Below v5.heap.size v5 W := hC'
        clear hC'
        simp only [puts] at hF
        subst hF
        go_wp2_with (fail)
        exact ⟨rfl, rfl, (Below.refl _ _), rfl⟩
      · intro uF W hC' hU aF hF
        have hC : Below v5.heap.size v5 W := hC'
        clear hC'
        have h35 : (Det (.pointer (some ⟨w.heap.size, 2, none⟩))) (uF 4) W := hU.1
        clear hU
        simp only [puts, Act.put, List.setIfInBounds_toArray, List.set_cons_zero, List.set_cons_succ] at hF
        generalize uF 4 = x35 at h35 hF
        obtain rfl : x35 = (.pointer (some ⟨w.heap.size, 2, none⟩)) := h35
        subst hF
        obtain ⟨e0, e1, e2, e3, e4, e5⟩ := cells6 (X5.below hC X5.lt)
        go_wp2_with (fail)
        exact ⟨rfl, rfl, (Below.refl _ _), rfl⟩
      · intro uF W hC' hU aF hF
        have hC : Below v5.heap.size v5 W := hC'
        clear hC'
        simp only [puts] at hF
        subst hF
        go_wp2_with (fail)
        exact ⟨rfl, rfl, (Below.refl _ _), rfl⟩
      · intro uF W hC' hU aF hF
        have hC : Below v5.heap.size v5 W := hC'
        clear hC'
        have h32 : (Det (.int .i64 a0)) (uF 1) W := hU.1
        have h34 : (Det (.slice A1 n1 c1)) (uF 3) W := hU.2.1
        have h36 : (Det (.slice A2 n2 c2)) (uF 5) W := hU.2.2.1
        have h37 : (Det (.slice (some ⟨v2.heap.size, 0, none⟩) 32 32)) (uF 6) W := hU.2.2.2.1
        clear hU
        simp only [puts, Act.put, List.setIfInBounds_toArray, List.set_cons_zero, List.set_cons_succ] at hF
        generalize uF 1 = x32 at h32 hF
        generalize uF 3 = x34 at h34 hF
        generalize uF 5 = x36 at h36 hF
        generalize uF 6 = x37 at h37 hF
        obtain rfl : x32 = (.int .i64 a0) := h32
        obtain rfl : x34 = (.slice A1 n1 c1) := h34
        obtain rfl : x36 = (.slice A2 n2 c2) := h36
        obtain rfl : x37 = (.slice (some ⟨v2.heap.size, 0, none⟩) 32 32) := h37
        subst hF
        go_wp2_with ((go_at_call 39; refine (right_c a0 ((k1.below (hC.mono hz5)).more (Nat.le_trans hz5 hC.size)) ((k2.below (hC.mono hz5)).more (Nat.le_trans hz5 hC.size)) (sum_sl (hb5.below hC hb5.lt) hla) (Nat.le_refl _) (by omega) (by omega) true (by simp)).mono ?_; rintro e W1 ⟨rfl, hb⟩))
        exact ⟨rfl, rfl, hb, rfl⟩
      · intro uF W hC' hU aF hF
        have hC : Below v5.heap.size v5 W := hC'
        clear hC'
        have h38 : (Det (.bool true)) (uF 7) W := hU.1
        clear hU
        simp only [puts, Act.put, List.setIfInBounds_toArray, List.set_cons_zero, List.set_cons_succ] at hF
        generalize uF 7 = x38 at h38 hF
        obtain rfl : x38 = (.bool true) := h38
        subst hF
        go_wp2_with (fail)
        exact ⟨rfl, rfl, (Below.refl _ _), rfl⟩
    intro uF v6 hC' hU aF hF
    have hCv6 : Below v5.heap.size v5 v6 := hC'
    clear hC'
    have h39 : (Det (.bool false)) (uF 8) v6 := hU.2.2.2.2.2.2.2.2.1
    clear hU
    simp only [puts, Act.put, List.setIfInBounds_toArray, List.set_cons_zero, List.set_cons_succ] at hF
    generalize uF 0 = x31 at hF
    generalize uF 1 = x32 at hF
    generalize uF 2 = x33 at hF
    generalize uF 3 = x34 at hF
    generalize uF 4 = x35 at hF
    generalize uF 5 = x36 at hF
    generalize uF 6 = x37 at hF
    generalize uF 7 = x38 at hF
    generalize uF 8 = x39 at h39 hF
    obtain rfl : x39 = (.bool false) := h39
    subst hF
    have X6 := X5.below hCv6 X5.lt
    have Y6 := Y5.below hCv6 Y5.lt
    have b6 := hb5.below hCv6 hb5.lt
    have hw6 := hw5.trans (hCv6.mono hz5)
    have hz6 := hw6.size
    have k61 := W1.out.below hw6
    have k62 := W2.out.below hw6
    have l61 := U1.out.below hw6
    have l62 := U2.out.below hw6
    obtain ⟨e0, e1, e2, e3, e4, e5⟩ := cells6 X6
    obtain ⟨f0, f1, f2, f3, f4, f5⟩ := cells6 Y6
    clear k1 k2 X5 Y5 hb5 hw5 hz5
    by_cases hn1 : n1 = m1
    · by_cases hn2 : n2 = m2
      · subst hn1
        subst hn2
        have hcase : ((a0 % 256 == b0 % 256) = false) ∨ ((a0 % 256 == b0 % 256) = true ∧ (bs1 == ds1) = false) ∨ ((a0 % 256 == b0 % 256) = true ∧ (bs1 == ds1) = true ∧ (bs2 == ds2) = false) ∨ ((a0 % 256 == b0 % 256) = true ∧ (bs1 == ds1) = true ∧ (bs2 == ds2) = true) := by
          cases (a0 % 256 == b0 % 256) <;> cases (bs1 == ds1) <;> cases (bs2 == ds2) <;> simp
        obtain ⟨r, hr⟩ : ∃ r, (ansOf b0 ds1 ds2 == ansOf a0 bs1 bs2) = r := ⟨_, rfl⟩
        have hr' : (ansOf a0 bs1 bs2 == ansOf b0 ds1 ds2) = r := by rw [← hr]; exact Bool.beq_comm
        rcases hcase with h | ⟨h, h1⟩ | ⟨h, h1, h2⟩ | ⟨h, h1, h2⟩
        rotate_left 3
        · have hrt : r = true := by
            rw [beq_iff_eq] at h h1 h2
            rw [← hr, beq_iff_eq, ansOf, ansOf, ansText, ansText, idB, idB, h, h1, h2]
          subst hrt
          have HR := Lib.hid hr
          have HR2 := Lib.hid hr'
          have H1 := Lib.hid h1
          have H2 := Lib.hid h2
          clear hr hr' h1 h2
          go_wp2_with (first
            | (go_at_call 40; (with_reducible show Calls _ _ #[.slice A1 n1 c1, .slice B1 n1 d1] _ _); refine (same_c k61 l61 _ H1.out).mono ?_; rintro e W1 ⟨rfl, rfl⟩)
            | (go_at_call 40; (with_reducible show Calls _ _ #[.slice A2 n2 c2, .slice B2 n2 d2] _ _); refine (same_c k62 l62 _ H2.out).mono ?_; rintro e W1 ⟨rfl, rfl⟩)
            | (go_at_call 37; refine (refanswer_c b0 l61 l62 hz6 (by omega) (by omega)).mono ?_; rintro e v7 ⟨rfl, hb7⟩; have b8 := Blk.new v7 40 (arr8 (z8' 32)))
            | ((with_reducible show wpList _ _ _ (Oper.mk _ (Op.alloc 40) _ _ _ _ :: _) _ _); refine wpList_alloc_agg rfl 40 rfl (arr8 (z8' 32)) zero44 ?_; (try rw [World.size_alloc]))
            | ((with_reducible show wpList _ _ _ (Oper.mk none (Op.store 40 (.tmp 7) _) _ _ _ _ :: _) _ _); refine wpList_store8 rfl 40 (.tmp 7) (.tmp 83) rfl v7.heap.size rfl (ansOf b0 ds1 ds2) rfl agg44 hlb _ _ b8 (by rw [size_arr8, len_z8']) ?_; intro v9 hb9 hg9 hs9; simp only [Act.put, List.setIfInBounds_toArray, List.set_cons_succ, List.set_cons_zero]))
          have h69 : Below v6.heap.size v6 v9 := (hb7.alloc hb7.size _).grown hg9 (Nat.le_trans hb7.size (by simp)) (fun k hk => by cases hk; exact hb7.size)
          have hw9 : Below w.heap.size w v9 := hw6.trans (h69.mono hz6)
          have hz9 := hw9.size
          have Y9 := Y6.below h69 Y6.lt
          have b9 := b6.below h69 b6.lt
          have l91 := U1.out.below hw9
          have l92 := U2.out.below hw9
          clear hs9 hg9 b8 hb7 h69 e0 e1 e2 e3 e4 e5 f0 f1 f2 f3 f4 f5 hbi
          refine wp_region_rel (fun W W' => Below W.heap.size W W') (fun W => Below v9.heap.size v9 W)
            [Det (.pointer (some ⟨w.heap.size + 1, 0, none⟩)), Det (.int .i64 b0), Det (.pointer (some ⟨w.heap.size + 1, 1, none⟩)), Det (.slice B1 n1 d1), Det (.pointer (some ⟨w.heap.size + 1, 2, none⟩)), Det (.slice B2 n2 d2), Det (.slice (some ⟨v2.heap.size, 0, none⟩) 32 32), Det (.bool true), Det (.bool true), Det (.bool true), Any, Any, Any, Det (.bool true), Det (.bool true), Det (.bool true)]
            [[], [(0, some 84)], [], [(2, some 86)], [], [(4, some 88)], [], [(1, some 85), (3, some 87), (5, some 89), (6, some 90)], [], [(8, some 92)], [(9, some 93)], [(9, some 93)], [(10, some 94), (11, some 95), (9, some 93)], [(9, some 93), (12, some 96)], [(7, some 91), (13, some 97)], [(14, some 98)]]
            [[], [0], [], [2], [], [4], [], [0, 1, 2, 3, 4, 5, 6], [], [0, 1, 2, 3, 4, 5, 6, 7, 8], [0, 1, 2, 3, 4, 5, 6, 7, 8, 9], [0, 1, 2, 3, 4, 5, 6, 7, 8, 9], [0, 1, 2, 3, 4, 5, 6, 7, 8, 9, 10, 11], [0, 1, 2, 3, 4, 5, 6, 7, 8, 9, 10, 11, 12], [0, 1, 2, 3, 4, 5, 6, 7, 8, 9, 10, 11, 12, 13], [0, 1, 2, 3, 4, 5, 6, 7, 8, 9, 10, 11, 12, 13, 14]]
            [(0, some 84), (1, some 85), (2, some 86), (3, some 87), (4, some 88), (5, some 89), (6, some 90), (7, some 91), (8, some 92), (9, some 93), (10, some 94), (11, some 95), (12, some 96), (13, some 97), (14, some 98), (15, some 4)] (by kernel_rfl) (by kernel_rfl) (fun W W' h1 h2 => h1.trans (h2.mono h1.size)) ((Below.refl _ _).drew) ?_ ?_ ?_
          · exact (AllMono.cons Det.later (AllMono.cons Det.later (AllMono.cons Det.later (AllMono.cons Det.later (AllMono.cons Det.later (AllMono.cons Det.later (AllMono.cons Det.later (AllMono.cons Det.later (AllMono.cons Det.later (AllMono.cons Det.later (AllMono.cons Any.later (AllMono.cons Any.later (AllMono.cons Any.later (AllMono.cons Det.later (AllMono.cons Det.later (AllMono.cons Det.later AllMono.nil))))))))))))))))
          · refine AllOb.cons ?_ (AllOb.cons ?_ (AllOb.cons ?_ (AllOb.cons ?_ (AllOb.cons ?_ (AllOb.cons ?_ (AllOb.cons ?_ (AllOb.cons ?_ (AllOb.cons ?_ (AllOb.cons ?_ (AllOb.cons ?_ (AllOb.cons ?_ (AllOb.cons ?_ (AllOb.cons ?_ (AllOb.cons ?_ (AllOb.cons ?_ (AllOb.nil))))))))))))))))
            · intro uF W hC' hU aF hF
              have hC : Below v9.heap.size v9 W := hC'
              clear hC'
              simp only [puts] at hF
              subst hF
              go_wp2_with (fail)
              exact ⟨rfl, rfl, (Below.refl _ _), rfl⟩
            · intro uF W hC' hU aF hF
              have hC : Below v9.heap.size v9 W := hC'
              clear hC'
              have h84 : (Det (.pointer (some ⟨w.heap.size + 1, 0, none⟩))) (uF 0) W := hU.1
              clear hU
              simp only [puts, Act.put, List.setIfInBounds_toArray, List.set_cons_zero, List.set_cons_succ] at hF
              generalize uF 0 = x84 at h84 hF
              obtain rfl : x84 = (.pointer (some ⟨w.heap.size + 1, 0, none⟩)) := h84
              subst hF
              obtain ⟨e0, e1, e2, e3, e4, e5⟩ := cells6 (Y9.below hC Y9.lt)
              go_wp2_with (fail)
              exact ⟨rfl, rfl, (Below.refl _ _), rfl⟩
            · intro uF W hC' hU aF hF
              have hC : Below v9.heap.size v9 W := hC'
              clear hC'
              simp only [puts] at hF
              subst hF
              go_wp2_with (fail)
              exact ⟨rfl, rfl, (Below.refl _ _), rfl⟩
            · intro uF W hC' hU aF hF
              have hC : Below v9.heap.size v9 W := hC'
              clear hC'
              have h86 : (Det (.pointer (some ⟨w.heap.size + 1, 1, none⟩))) (uF 2) W := hU.1
              clear hU
              simp only [puts, Act.put, List.setIfInBounds_toArray, List.set_cons_zero, List.set_cons_succ] at hF
              generalize uF 2 = x86 at h86 hF
              obtain rfl : x86 = (.pointer (some ⟨w.heap.size + 1, 1, none⟩)) := h86
              subst hF
              obtain ⟨e0, e1, e2, e3, e4, e5⟩ := cells6 (Y9.below hC Y9.lt)
              go_wp2_with (fail)
              exact ⟨rfl, rfl, (Below.refl _ _), rfl⟩
            · intro uF W hC' hU aF hF
              have hC : Below v9.heap.size v9 W := hC'
              clear hC'
              simp only [puts] at hF
              subst hF
              go_wp2_with (fail)
              exact ⟨rfl, rfl, (Below.refl _ _), rfl⟩
            · intro uF W hC' hU aF hF
              have hC : Below v9.heap.size v9 W := hC'
              clear hC'
              have h88 : (Det (.pointer (some ⟨w.heap.size + 1, 2, none⟩))) (uF 4) W := hU.1
              clear hU
              simp only [puts, Act.put, List.setIfInBounds_toArray, List.set_cons_zero, List.set_cons_succ] at hF
              generalize uF 4 = x88 at h88 hF
              obtain rfl : x88 = (.pointer (some ⟨w.heap.size + 1, 2, none⟩)) := h88
              subst hF
              obtain ⟨e0, e1, e2, e3, e4, e5⟩ := cells6 (Y9.below hC Y9.lt)
              go_wp2_with (fail)
              exact ⟨rfl, rfl, (Below.refl _ _), rfl⟩
            · intro uF W hC' hU aF hF
              have hC : Below v9.heap.size v9 W := hC'
              clear hC'
              simp only [puts] at hF
              subst hF
              go_wp2_with (fail)
              exact ⟨rfl, rfl, (Below.refl _ _), rfl⟩
            · intro uF W hC' hU aF hF
              have hC : Below v9.heap.size v9 W := hC'
              clear hC'
              have h85 : (Det (.int .i64 b0)) (uF 1) W := hU.1
              have h87 : (Det (.slice B1 n1 d1)) (uF 3) W := hU.2.1
              have h89 : (Det (.slice B2 n2 d2)) (uF 5) W := hU.2.2.1
              have h90 : (Det (.slice (some ⟨v2.heap.size, 0, none⟩) 32 32)) (uF 6) W := hU.2.2.2.1
              clear hU
              simp only [puts, Act.put, List.setIfInBounds_toArray, List.set_cons_zero, List.set_cons_succ] at hF
              generalize uF 1 = x85 at h85 hF
              generalize uF 3 = x87 at h87 hF
              generalize uF 5 = x89 at h89 hF
              generalize uF 6 = x90 at h90 hF
              obtain rfl : x85 = (.int .i64 b0) := h85
              obtain rfl : x87 = (.slice B1 n1 d1) := h87
              obtain rfl : x89 = (.slice B2 n2 d2) := h89
              obtain rfl : x90 = (.slice (some ⟨v2.heap.size, 0, none⟩) 32 32) := h90
              subst hF
              go_wp2_with ((go_at_call 39; refine (right_c b0 ((l91.below (hC.mono hz9)).more (Nat.le_trans hz9 hC.size)) ((l92.below (hC.mono hz9)).more (Nat.le_trans hz9 hC.size)) (sum_sl (b9.below hC b9.lt) hla) (Nat.le_refl _) (by omega) (by omega) true HR.out).mono ?_; rintro e W1 ⟨rfl, hb⟩))
              exact ⟨rfl, rfl, hb, rfl⟩
            · intro uF W hC' hU aF hF
              have hC : Below v9.heap.size v9 W := hC'
              clear hC'
              simp only [puts] at hF
              subst hF
              go_wp2_with (fail)
              exact ⟨rfl, rfl, (Below.refl _ _), rfl⟩
            · intro uF W hC' hU aF hF
              have hC : Below v9.heap.size v9 W := hC'
              clear hC'
              have h92 : (Det (.bool true)) (uF 8) W := hU.1
              clear hU
              simp only [puts, Act.put, List.setIfInBounds_toArray, List.set_cons_zero, List.set_cons_succ] at hF
              generalize uF 8 = x92 at h92 hF
              obtain rfl : x92 = (.bool true) := h92
              subst hF
              go_wp2_with (fail)
              exact ⟨rfl, rfl, (Below.refl _ _), rfl⟩
            · intro uF W hC' hU aF hF
              have hC : Below v9.heap.size v9 W := hC'
              clear hC'
              have h93 : (Det (.bool true)) (uF 9) W := hU.1
              clear hU
              simp only [puts, Act.put, List.setIfInBounds_toArray, List.set_cons_zero, List.set_cons_succ] at hF
              generalize uF 9 = x93 at h93 hF
              obtain rfl : x93 = (.bool true) := h93
              subst hF
              go_wp2_with (((with_reducible show wpList _ _ _ (Oper.mk _ (Op.load 40 _) _ _ _ _ :: _) _ _); refine wpList_load_whole (by rfl) 40 (.tmp 5) rfl v2.heap.size rfl (arr8 (ansOf a0 bs1 bs2)) agg44 (by rw [size_arr8, len_ansOf]) 40 (b9.below hC b9.lt) ?_))
              exact ⟨rfl, rfl, (Below.refl _ _), trivial⟩
            · intro uF W hC' hU aF hF
              have hC : Below v9.heap.size v9 W := hC'
              clear hC'
              have h93 : (Det (.bool true)) (uF 9) W := hU.1
              clear hU
              simp only [puts, Act.put, List.setIfInBounds_toArray, List.set_cons_zero, List.set_cons_succ] at hF
              generalize uF 9 = x93 at h93 hF
              obtain rfl : x93 = (.bool true) := h93
              subst hF
              go_wp2_with (((with_reducible show wpList _ _ _ (Oper.mk _ (Op.load 40 _) _ _ _ _ :: _) _ _); refine wpList_load_whole (by rfl) 40 (.tmp 7) rfl v7.heap.size rfl (arr8 (ansOf b0 ds1 ds2)) agg44 (by rw [size_arr8, len_ansOf]) 40 (hb9.below hC hb9.lt) ?_))
              exact ⟨rfl, rfl, (Below.refl _ _), trivial⟩
            · intro uF W hC' hU aF hF
              have hC : Below v9.heap.size v9 W := hC'
              clear hC'
              have h94 : Any (uF 10) W := hU.1
              have h95 : Any (uF 11) W := hU.2.1
              have h93 : (Det (.bool true)) (uF 9) W := hU.2.2.1
              clear hU
              simp only [puts, Act.put, List.setIfInBounds_toArray, List.set_cons_zero, List.set_cons_succ] at hF
              generalize uF 10 = x94 at h94 hF
              generalize uF 11 = x95 at h95 hF
              generalize uF 9 = x93 at h93 hF
              obtain rfl : x93 = (.bool true) := h93
              subst hF
              have he := eq44 (ansOf a0 bs1 bs2) (ansOf b0 ds1 ds2) hla hlb true HR2.out
              have hg := guard44
              go_wp2_with (fail)
              exact ⟨rfl, rfl, (Below.refl _ _), trivial⟩
            · intro uF W hC' hU aF hF
              have hC : Below v9.heap.size v9 W := hC'
              clear hC'
              have h93 : (Det (.bool true)) (uF 9) W := hU.1
              have h96 : Any (uF 12) W := hU.2.1
              clear hU
              simp only [puts, Act.put, List.setIfInBounds_toArray, List.set_cons_zero, List.set_cons_succ] at hF
              generalize uF 9 = x93 at h93 hF
              generalize uF 12 = x96 at h96 hF
              obtain rfl : x93 = (.bool true) := h93
              subst hF
              go_wp2_with (fail)
              exact ⟨rfl, rfl, (Below.refl _ _), rfl⟩
            · intro uF W hC' hU aF hF
              have hC : Below v9.heap.size v9 W := hC'
              clear hC'
              have h91 : (Det (.bool true)) (uF 7) W := hU.1
              have h97 : (Det (.bool true)) (uF 13) W := hU.2.1
              clear hU
              simp only [puts, Act.put, List.setIfInBounds_toArray, List.set_cons_zero, List.set_cons_succ] at hF
              generalize uF 7 = x91 at h91 hF
              generalize uF 13 = x97 at h97 hF
              obtain rfl : x91 = (.bool true) := h91
              obtain rfl : x97 = (.bool true) := h97
              subst hF
              go_wp2_with (fail)
              exact ⟨rfl, rfl, (Below.refl _ _), rfl⟩
            · intro uF W hC' hU aF hF
              have hC : Below v9.heap.size v9 W := hC'
              clear hC'
              have h98 : (Det (.bool true)) (uF 14) W := hU.1
              clear hU
              simp only [puts, Act.put, List.setIfInBounds_toArray, List.set_cons_zero, List.set_cons_succ] at hF
              generalize uF 14 = x98 at h98 hF
              obtain rfl : x98 = (.bool true) := h98
              subst hF
              go_wp2_with (fail)
              exact ⟨rfl, rfl, (Below.refl _ _), rfl⟩
          intro uF v10 hC' hU aF hF
          have hCv10 : Below v9.heap.size v9 v10 := hC'
          clear hC'
          have h4 : (Det (.bool true)) (uF 15) v10 := hU.2.2.2.2.2.2.2.2.2.2.2.2.2.2.2.1
          clear hU
          simp only [puts, Act.put, List.setIfInBounds_toArray, List.set_cons_zero, List.set_cons_succ] at hF
          generalize uF 0 = x84 at hF
          generalize uF 1 = x85 at hF
          generalize uF 2 = x86 at hF
          generalize uF 3 = x87 at hF
          generalize uF 4 = x88 at hF
          generalize uF 5 = x89 at hF
          generalize uF 6 = x90 at hF
          generalize uF 7 = x91 at hF
          generalize uF 8 = x92 at hF
          generalize uF 9 = x93 at hF
          generalize uF 10 = x94 at hF
          generalize uF 11 = x95 at hF
          generalize uF 12 = x96 at hF
          generalize uF 13 = x97 at hF
          generalize uF 14 = x98 at hF
          generalize uF 15 = x4 at h4 hF
          obtain rfl : x4 = (.bool true) := h4
          subst hF
          go_wp2_with fail
          go_ret
          exact ⟨rfl, hw9.trans (hCv10.mono hz9)⟩
        · have h1 := trivial
          have h2 := trivial
          have HR := Lib.hid hr
          have HR2 := Lib.hid hr'
          have H1 := Lib.hid h1
          have H2 := Lib.hid h2
          clear hr hr' h1 h2
          go_wp2_with (first
            | (go_at_call 40; (with_reducible show Calls _ _ #[.slice A1 n1 c1, .slice B1 n1 d1] _ _); refine (same_c k61 l61 _ H1.out).mono ?_; rintro e W1 ⟨rfl, rfl⟩)
            | (go_at_call 40; (with_reducible show Calls _ _ #[.slice A2 n2 c2, .slice B2 n2 d2] _ _); refine (same_c k62 l62 _ H2.out).mono ?_; rintro e W1 ⟨rfl, rfl⟩)
            | (go_at_call 37; refine (refanswer_c b0 l61 l62 hz6 (by omega) (by omega)).mono ?_; rintro e v7 ⟨rfl, hb7⟩; have b8 := Blk.new v7 40 (arr8 (z8' 32)))
            | ((with_reducible show wpList _ _ _ (Oper.mk _ (Op.alloc 40) _ _ _ _ :: _) _ _); refine wpList_alloc_agg rfl 40 rfl (arr8 (z8' 32)) zero44 ?_; (try rw [World.size_alloc]))
            | ((with_reducible show wpList _ _ _ (Oper.mk none (Op.store 40 (.tmp 7) _) _ _ _ _ :: _) _ _); refine wpList_store8 rfl 40 (.tmp 7) (.tmp 83) rfl v7.heap.size rfl (ansOf b0 ds1 ds2) rfl agg44 hlb _ _ b8 (by rw [size_arr8, len_z8']) ?_; intro v9 hb9 hg9 hs9; simp only [Act.put, List.setIfInBounds_toArray, List.set_cons_succ, List.set_cons_zero]))
          have h69 : Below v6.heap.size v6 v9 := (hb7.alloc hb7.size _).grown hg9 (Nat.le_trans hb7.size (by simp)) (fun k hk => by cases hk; exact hb7.size)
          have hw9 : Below w.heap.size w v9 := hw6.trans (h69.mono hz6)
          have hz9 := hw9.size
          have Y9 := Y6.below h69 Y6.lt
          have b9 := b6.below h69 b6.lt
          have l91 := U1.out.below hw9
          have l92 := U2.out.below hw9
          clear hs9 hg9 b8 hb7 h69 e0 e1 e2 e3 e4 e5 f0 f1 f2 f3 f4 f5 hbi
          refine wp_region_rel (fun W W' => Below W.heap.size W W') (fun W => Below v9.heap.size v9 W)
            [Det (.pointer (some ⟨w.heap.size + 1, 0, none⟩)), Det (.int .i64 b0), Det (.pointer (some ⟨w.heap.size + 1, 1, none⟩)), Det (.slice B1 n1 d1), Det (.pointer (some ⟨w.heap.size + 1, 2, none⟩)), Det (.slice B2 n2 d2), Det (.slice (some ⟨v2.heap.size, 0, none⟩) 32 32), Det (.bool r), Det (.bool false), Det (.bool false), Det (.agg (arr8 (ansOf a0 bs1 bs2))), Det (.agg (arr8 (ansOf b0 ds1 ds2))), Det (.bool r), Det (.bool r), Det (.bool true), Det (.bool true)]
            [[], [(0, some 84)], [], [(2, some 86)], [], [(4, some 88)], [], [(1, some 85), (3, some 87), (5, some 89), (6, some 90)], [], [(8, some 92)], [(9, some 93)], [(9, some 93)], [(10, some 94), (11, some 95), (9, some 93)], [(9, some 93), (12, some 96)], [(7, some 91), (13, some 97)], [(14, some 98)]]
            [[], [0], [], [2], [], [4], [], [0, 1, 2, 3, 4, 5, 6], [], [0, 1, 2, 3, 4, 5, 6, 7, 8], [0, 1, 2, 3, 4, 5, 6, 7, 8, 9], [0, 1, 2, 3, 4, 5, 6, 7, 8, 9], [0, 1, 2, 3, 4, 5, 6, 7, 8, 9, 10, 11], [0, 1, 2, 3, 4, 5, 6, 7, 8, 9, 10, 11, 12], [0, 1, 2, 3, 4, 5, 6, 7, 8, 9, 10, 11, 12, 13], [0, 1, 2, 3, 4, 5, 6, 7, 8, 9, 10, 11, 12, 13, 14]]
            [(0, some 84), (1, some 85), (2, some 86), (3, some 87), (4, some 88), (5, some 89), (6, some 90), (7, some 91), (8, some 92), (9, some 93), (10, some 94), (11, some 95), (12, some 96), (13, some 97), (14, some 98), (15, some 4)] (by kernel_rfl) (by kernel_rfl) (fun W W' h1 h2 => h1.trans (h2.mono h1.size)) ((Below.refl _ _).drew) ?_ ?_ ?_
          · exact (AllMono.cons Det.later (AllMono.cons Det.later (AllMono.cons Det.later (AllMono.cons Det.later (AllMono.cons Det.later (AllMono.cons Det.later (AllMono.cons Det.later (AllMono.cons Det.later (AllMono.cons Det.later (AllMono.cons Det.later (AllMono.cons Det.later (AllMono.cons Det.later (AllMono.cons Det.later (AllMono.cons Det.later (AllMono.cons Det.later (AllMono.cons Det.later AllMono.nil))))))))))))))))
          · refine AllOb.cons ?_ (AllOb.cons ?_ (AllOb.cons ?_ (AllOb.cons ?_ (AllOb.cons ?_ (AllOb.cons ?_ (AllOb.cons ?_ (AllOb.cons ?_ (AllOb.cons ?_ (AllOb.cons ?_ (AllOb.cons ?_ (AllOb.cons ?_ (AllOb.cons ?_ (AllOb.cons ?_ (AllOb.cons ?_ (AllOb.cons ?_ (AllOb.nil))))))))))))))))
            · intro uF W hC' hU aF hF
              have hC : Below v9.heap.size v9 W := hC'
              clear hC'
              simp only [puts] at hF
              subst hF
              go_wp2_with (fail)
              exact ⟨rfl, rfl, (Below.refl _ _), rfl⟩
            · intro uF W hC' hU aF hF
              have hC : Below v9.heap.size v9 W := hC'
              clear hC'
              have h84 : (Det (.pointer (some ⟨w.heap.size + 1, 0, none⟩))) (uF 0) W := hU.1
              clear hU
              simp only [puts, Act.put, List.setIfInBounds_toArray, List.set_cons_zero, List.set_cons_succ] at hF
              generalize uF 0 = x84 at h84 hF
              obtain rfl : x84 = (.pointer (some ⟨w.heap.size + 1, 0, none⟩)) := h84
              subst hF
              obtain ⟨e0, e1, e2, e3, e4, e5⟩ := cells6 (Y9.below hC Y9.lt)
              go_wp2_with (fail)
              exact ⟨rfl, rfl, (Below.refl _ _), rfl⟩
            · intro uF W hC' hU aF hF
              have hC : Below v9.heap.size v9 W := hC'
              clear hC'
              simp only [puts] at hF
              subst hF
              go_wp2_with (fail)
              exact ⟨rfl, rfl, (Below.refl _ _), rfl⟩
            · intro uF W hC' hU aF hF
              have hC : Below v9.heap.size v9 W := hC'
              clear hC'
              have h86 : (Det (.pointer (some ⟨w.heap.size + 1, 1, none⟩))) (uF 2) W := hU.1
              clear hU
              simp only [puts, Act.put, List.setIfInBounds_toArray, List.set_cons_zero, List.set_cons_succ] at hF
              generalize uF 2 = x86 at h86 hF
              obtain rfl : x86 = (.pointer (some ⟨w.heap.size + 1, 1, none⟩)) := h86
              subst hF
              obtain ⟨e0, e1, e2, e3, e4, e5⟩ := cells6 (Y9.below hC Y9.lt)
              go_wp2_with (fail)
              exact ⟨rfl, rfl, (Below.refl _ _), rfl⟩
            · intro uF W hC' hU aF hF
              have hC : Below v9.heap.size v9 W := hC'
              clear hC'
              simp only [puts] at hF
              subst hF
              go_wp2_with (fail)
              exact ⟨rfl, rfl, (Below.refl _ _), rfl⟩
            · intro uF W hC' hU aF hF
              have hC : Below v9.heap.size v9 W := hC'
              clear hC'
              have h88 : (Det (.pointer (some ⟨w.heap.size + 1, 2, none⟩))) (uF 4) W := hU.1
              clear hU
              simp only [puts, Act.put, List.setIfInBounds_toArray, List.set_cons_zero, List.set_cons_succ] at hF
              generalize uF 4 = x88 at h88 hF
              obtain rfl : x88 = (.pointer (some ⟨w.heap.size + 1, 2, none⟩)) := h88
              subst hF
              obtain ⟨e0, e1, e2, e3, e4, e5⟩ := cells6 (Y9.below hC Y9.lt)
              go_wp2_with (fail)
              exact ⟨rfl, rfl, (Below.refl _ _), rfl⟩
            · intro uF W hC' hU aF hF
              have hC : Below v9.heap.size v9 W := hC'
              clear hC'
              simp only [puts] at hF
              subst hF
              go_wp2_with (fail)
              exact ⟨rfl, rfl, (Below.refl _ _), rfl⟩
            · intro uF W hC' hU aF hF
              have hC : Below v9.heap.size v9 W := hC'
              clear hC'
              have h85 : (Det (.int .i64 b0)) (uF 1) W := hU.1
              have h87 : (Det (.slice B1 n1 d1)) (uF 3) W := hU.2.1
              have h89 : (Det (.slice B2 n2 d2)) (uF 5) W := hU.2.2.1
              have h90 : (Det (.slice (some ⟨v2.heap.size, 0, none⟩) 32 32)) (uF 6) W := hU.2.2.2.1
              clear hU
              simp only [puts, Act.put, List.setIfInBounds_toArray, List.set_cons_zero, List.set_cons_succ] at hF
              generalize uF 1 = x85 at h85 hF
              generalize uF 3 = x87 at h87 hF
              generalize uF 5 = x89 at h89 hF
              generalize uF 6 = x90 at h90 hF
              obtain rfl : x85 = (.int .i64 b0) := h85
              obtain rfl : x87 = (.slice B1 n1 d1) := h87
              obtain rfl : x89 = (.slice B2 n2 d2) := h89
              obtain rfl : x90 = (.slice (some ⟨v2.heap.size, 0, none⟩) 32 32) := h90
              subst hF
              go_wp2_with ((go_at_call 39; refine (right_c b0 ((l91.below (hC.mono hz9)).more (Nat.le_trans hz9 hC.size)) ((l92.below (hC.mono hz9)).more (Nat.le_trans hz9 hC.size)) (sum_sl (b9.below hC b9.lt) hla) (Nat.le_refl _) (by omega) (by omega) r HR.out).mono ?_; rintro e W1 ⟨rfl, hb⟩))
              exact ⟨rfl, rfl, hb, rfl⟩
            · intro uF W hC' hU aF hF
              have hC : Below v9.heap.size v9 W := hC'
              clear hC'
              simp only [puts] at hF
              subst hF
              go_wp2_with (fail)
              exact ⟨rfl, rfl, (Below.refl _ _), rfl⟩
            · intro uF W hC' hU aF hF
              have hC : Below v9.heap.size v9 W := hC'
              clear hC'
              have h92 : (Det (.bool false)) (uF 8) W := hU.1
              clear hU
              simp only [puts, Act.put, List.setIfInBounds_toArray, List.set_cons_zero, List.set_cons_succ] at hF
              generalize uF 8 = x92 at h92 hF
              obtain rfl : x92 = (.bool false) := h92
              subst hF
              go_wp2_with (fail)
              exact ⟨rfl, rfl, (Below.refl _ _), rfl⟩
            · intro uF W hC' hU aF hF
              have hC : Below v9.heap.size v9 W := hC'
              clear hC'
              have h93 : (Det (.bool false)) (uF 9) W := hU.1
              clear hU
              simp only [puts, Act.put, List.setIfInBounds_toArray, List.set_cons_zero, List.set_cons_succ] at hF
              generalize uF 9 = x93 at h93 hF
              obtain rfl : x93 = (.bool false) := h93
              subst hF
              go_wp2_with (((with_reducible show wpList _ _ _ (Oper.mk _ (Op.load 40 _) _ _ _ _ :: _) _ _); refine wpList_load_whole (by rfl) 40 (.tmp 5) rfl v2.heap.size rfl (arr8 (ansOf a0 bs1 bs2)) agg44 (by rw [size_arr8, len_ansOf]) 40 (b9.below hC b9.lt) ?_))
              exact ⟨rfl, rfl, (Below.refl _ _), rfl⟩
            · intro uF W hC' hU aF hF
              have hC : Below v9.heap.size v9 W := hC'
              clear hC'
              have h93 : (Det (.bool false)) (uF 9) W := hU.1
              clear hU
              simp only [puts, Act.put, List.setIfInBounds_toArray, List.set_cons_zero, List.set_cons_succ] at hF
              generalize uF 9 = x93 at h93 hF
              obtain rfl : x93 = (.bool false) := h93
              subst hF
              go_wp2_with (((with_reducible show wpList _ _ _ (Oper.mk _ (Op.load 40 _) _ _ _ _ :: _) _ _); refine wpList_load_whole (by rfl) 40 (.tmp 7) rfl v7.heap.size rfl (arr8 (ansOf b0 ds1 ds2)) agg44 (by rw [size_arr8, len_ansOf]) 40 (hb9.below hC hb9.lt) ?_))
              exact ⟨rfl, rfl, (Below.refl _ _), rfl⟩
            · intro uF W hC' hU aF hF
              have hC : Below v9.heap.size v9 W := hC'
              clear hC'
              have h94 : (Det (.agg (arr8 (ansOf a0 bs1 bs2)))) (uF 10) W := hU.1
              have h95 : (Det (.agg (arr8 (ansOf b0 ds1 ds2)))) (uF 11) W := hU.2.1
              have h93 : (Det (.bool false)) (uF 9) W := hU.2.2.1
              clear hU
              simp only [puts, Act.put, List.setIfInBounds_toArray, List.set_cons_zero, List.set_cons_succ] at hF
              generalize uF 10 = x94 at h94 hF
              generalize uF 11 = x95 at h95 hF
              generalize uF 9 = x93 at h93 hF
              obtain rfl : x94 = (.agg (arr8 (ansOf a0 bs1 bs2))) := h94
              obtain rfl : x95 = (.agg (arr8 (ansOf b0 ds1 ds2))) := h95
              obtain rfl : x93 = (.bool false) := h93
              subst hF
              have he := eq44 (ansOf a0 bs1 bs2) (ansOf b0 ds1 ds2) hla hlb r HR2.out
              have hg := guard44
              go_wp2_with (fail)
              exact ⟨rfl, rfl, (Below.refl _ _), rfl⟩
            · intro uF W hC' hU aF hF
              have hC : Below v9.heap.size v9 W := hC'
              clear hC'
              have h93 : (Det (.bool false)) (uF 9) W := hU.1
              have h96 : (Det (.bool r)) (uF 12) W := hU.2.1
              clear hU
              simp only [puts, Act.put, List.setIfInBounds_toArray, List.set_cons_zero, List.set_cons_succ] at hF
              generalize uF 9 = x93 at h93 hF
              generalize uF 12 = x96 at h96 hF
              obtain rfl : x93 = (.bool false) := h93
              obtain rfl : x96 = (.bool r) := h96
              subst hF
              go_wp2_with (fail)
              exact ⟨rfl, rfl, (Below.refl _ _), rfl⟩
            · intro uF W hC' hU aF hF
              have hC : Below v9.heap.size v9 W := hC'
              clear hC'
              have h91 : (Det (.bool r)) (uF 7) W := hU.1
              have h97 : (Det (.bool r)) (uF 13) W := hU.2.1
              clear hU
              simp only [puts, Act.put, List.setIfInBounds_toArray, List.set_cons_zero, List.set_cons_succ] at hF
              generalize uF 7 = x91 at h91 hF
              generalize uF 13 = x97 at h97 hF
              obtain rfl : x91 = (.bool r) := h91
              obtain rfl : x97 = (.bool r) := h97
              subst hF
              go_wp2_with (fail)
              exact ⟨rfl, rfl, (Below.refl _ _), rfl⟩
            · intro uF W hC' hU aF hF
              have hC : Below v9.heap.size v9 W := hC'
              clear hC'
              have h98 : (Det (.bool true)) (uF 14) W := hU.1
              clear hU
              simp only [puts, Act.put, List.setIfInBounds_toArray, List.set_cons_zero, List.set_cons_succ] at hF
              generalize uF 14 = x98 at h98 hF
              obtain rfl : x98 = (.bool true) := h98
              subst hF
              go_wp2_with (fail)
              exact ⟨rfl, rfl, (Below.refl _ _), rfl⟩
          intro uF v10 hC' hU aF hF
          have hCv10 : Below v9.heap.size v9 v10 := hC'
          clear hC'
          have h4 : (Det (.bool true)) (uF 15) v10 := hU.2.2.2.2.2.2.2.2.2.2.2.2.2.2.2.1
          clear hU
          simp only [puts, Act.put, List.setIfInBounds_toArray, List.set_cons_zero, List.set_cons_succ] at hF
          generalize uF 0 = x84 at hF
          generalize uF 1 = x85 at hF
          generalize uF 2 = x86 at hF
          generalize uF 3 = x87 at hF
          generalize uF 4 = x88 at hF
          generalize uF 5 = x89 at hF
          generalize uF 6 = x90 at hF
          generalize uF 7 = x91 at hF
          generalize uF 8 = x92 at hF
          generalize uF 9 = x93 at hF
          generalize uF 10 = x94 at hF
          generalize uF 11 = x95 at hF
          generalize uF 12 = x96 at hF
          generalize uF 13 = x97 at hF
          generalize uF 14 = x98 at hF
          generalize uF 15 = x4 at h4 hF
          obtain rfl : x4 = (.bool true) := h4
          subst hF
          go_wp2_with fail
          go_ret
          exact ⟨rfl, hw9.trans (hCv10.mono hz9)⟩
        · have h2 := trivial
          have HR := Lib.hid hr
          have HR2 := Lib.hid hr'
          have H1 := Lib.hid h1
          have H2 := Lib.hid h2
          clear hr hr' h1 h2
          go_wp2_with (first
            | (go_at_call 40; (with_reducible show Calls _ _ #[.slice A1 n1 c1, .slice B1 n1 d1] _ _); refine (same_c k61 l61 _ H1.out).mono ?_; rintro e W1 ⟨rfl, rfl⟩)
            | (go_at_call 40; (with_reducible show Calls _ _ #[.slice A2 n2 c2, .slice B2 n2 d2] _ _); refine (same_c k62 l62 _ H2.out).mono ?_; rintro e W1 ⟨rfl, rfl⟩)
            | (go_at_call 37; refine (refanswer_c b0 l61 l62 hz6 (by omega) (by omega)).mono ?_; rintro e v7 ⟨rfl, hb7⟩; have b8 := Blk.new v7 40 (arr8 (z8' 32)))
            | ((with_reducible show wpList _ _ _ (Oper.mk _ (Op.alloc 40) _ _ _ _ :: _) _ _); refine wpList_alloc_agg rfl 40 rfl (arr8 (z8' 32)) zero44 ?_; (try rw [World.size_alloc]))
            | ((with_reducible show wpList _ _ _ (Oper.mk none (Op.store 40 (.tmp 7) _) _ _ _ _ :: _) _ _); refine wpList_store8 rfl 40 (.tmp 7) (.tmp 83) rfl v7.heap.size rfl (ansOf b0 ds1 ds2) rfl agg44 hlb _ _ b8 (by rw [size_arr8, len_z8']) ?_; intro v9 hb9 hg9 hs9; simp only [Act.put, List.setIfInBounds_toArray, List.set_cons_succ, List.set_cons_zero]))
          have h69 : Below v6.heap.size v6 v9 := (hb7.alloc hb7.size _).grown hg9 (Nat.le_trans hb7.size (by simp)) (fun k hk => by cases hk; exact hb7.size)
          have hw9 : Below w.heap.size w v9 := hw6.trans (h69.mono hz6)
          have hz9 := hw9.size
          have Y9 := Y6.below h69 Y6.lt
          have b9 := b6.below h69 b6.lt
          have l91 := U1.out.below hw9
          have l92 := U2.out.below hw9
          clear hs9 hg9 b8 hb7 h69 e0 e1 e2 e3 e4 e5 f0 f1 f2 f3 f4 f5 hbi
          refine wp_region_rel (fun W W' => Below W.heap.size W W') (fun W => Below v9.heap.size v9 W)
            [Det (.pointer (some ⟨w.heap.size + 1, 0, none⟩)), Det (.int .i64 b0), Det (.pointer (some ⟨w.heap.size + 1, 1, none⟩)), Det (.slice B1 n1 d1), Det (.pointer (some ⟨w.heap.size + 1, 2, none⟩)), Det (.slice B2 n2 d2), Det (.slice (some ⟨v2.heap.size, 0, none⟩) 32 32), Det (.bool r), Det (.bool false), Det (.bool false), Det (.agg (arr8 (ansOf a0 bs1 bs2))), Det (.agg (arr8 (ansOf b0 ds1 ds2))), Det (.bool r), Det (.bool r), Det (.bool true), Det (.bool true)]
            [[], [(0, some 84)], [], [(2, some 86)], [], [(4, some 88)], [], [(1, some 85), (3, some 87), (5, some 89), (6, some 90)], [], [(8, some 92)], [(9, some 93)], [(9, some 93)], [(10, some 94), (11, some 95), (9, some 93)], [(9, some 93), (12, some 96)], [(7, some 91), (13, some 97)], [(14, some 98)]]
            [[], [0], [], [2], [], [4], [], [0, 1, 2, 3, 4, 5, 6], [], [0, 1, 2, 3, 4, 5, 6, 7, 8], [0, 1, 2, 3, 4, 5, 6, 7, 8, 9], [0, 1, 2, 3, 4, 5, 6, 7, 8, 9], [0, 1, 2, 3, 4, 5, 6, 7, 8, 9, 10, 11], [0, 1, 2, 3, 4, 5, 6, 7, 8, 9, 10, 11, 12], [0, 1, 2, 3, 4, 5, 6, 7, 8, 9, 10, 11, 12, 13], [0, 1, 2, 3, 4, 5, 6, 7, 8, 9, 10, 11, 12, 13, 14]]
            [(0, some 84), (1, some 85), (2, some 86), (3, some 87), (4, some 88), (5, some 89), (6, some 90), (7, some 91), (8, some 92), (9, some 93), (10, some 94), (11, some 95), (12, some 96), (13, some 97), (14, some 98), (15, some 4)] (by kernel_rfl) (by kernel_rfl) (fun W W' h1 h2 => h1.trans (h2.mono h1.size)) ((Below.refl _ _).drew) ?_ ?_ ?_
          · exact (AllMono.cons Det.later (AllMono.cons Det.later (AllMono.cons Det.later (AllMono.cons Det.later (AllMono.cons Det.later (AllMono.cons Det.later (AllMono.cons Det.later (AllMono.cons Det.later (AllMono.cons Det.later (AllMono.cons Det.later (AllMono.cons Det.later (AllMono.cons Det.later (AllMono.cons Det.later (AllMono.cons Det.later (AllMono.cons Det.later (AllMono.cons Det.later AllMono.nil))))))))))))))))
          · refine AllOb.cons ?_ (AllOb.cons ?_ (AllOb.cons ?_ (AllOb.cons ?_ (AllOb.cons ?_ (AllOb.cons ?_ (AllOb.cons ?_ (AllOb.cons ?_ (AllOb.cons ?_ (AllOb.cons ?_ (AllOb.cons ?_ (AllOb.cons ?_ (AllOb.cons ?_ (AllOb.cons ?_ (AllOb.cons ?_ (AllOb.cons ?_ (AllOb.nil))))))))))))))))
            · intro uF W hC' hU aF hF
              have hC : Below v9.heap.size v9 W := hC'
              clear hC'
              simp only [puts] at hF
              subst hF
              go_wp2_with (fail)
              exact ⟨rfl, rfl, (Below.refl _ _), rfl⟩
            · intro uF W hC' hU aF hF
              have hC : Below v9.heap.size v9 W := hC'
              clear hC'
              have h84 : (Det (.pointer (some ⟨w.heap.size + 1, 0, none⟩))) (uF 0) W := hU.1
              clear hU
              simp only [puts, Act.put, List.setIfInBounds_toArray, List.set_cons_zero, List.set_cons_succ] at hF
              generalize uF 0 = x84 at h84 hF
              obtain rfl : x84 = (.pointer (some ⟨w.heap.size + 1, 0, none⟩)) := h84
              subst hF
              obtain ⟨e0, e1, e2, e3, e4, e5⟩ := cells6 (Y9.below hC Y9.lt)
              go_wp2_with (fail)
              exact ⟨rfl, rfl, (Below.refl _ _), rfl⟩
            · intro uF W hC' hU aF hF
              have hC : Below v9.heap.size v9 W := hC'
              clear hC'
              simp only [puts] at hF
              subst hF
              go_wp2_with (fail)
              exact ⟨rfl, rfl, (Below.refl _ _), rfl⟩
            · intro uF W hC' hU aF hF
              have hC : Below v9.heap.size v9 W := hC'
              clear hC'
              have h86 : (Det (.pointer (some ⟨w.heap.size + 1, 1, none⟩))) (uF 2) W := hU.1
              clear hU
              simp only [puts, Act.put, List.setIfInBounds_toArray, List.set_cons_zero, List.set_cons_succ] at hF
              generalize uF 2 = x86 at h86 hF
              obtain rfl : x86 = (.pointer (some ⟨w.heap.size + 1, 1, none⟩)) := h86
              subst hF
              obtain ⟨e0, e1, e2, e3, e4, e5⟩ := cells6 (Y9.below hC Y9.lt)
              go_wp2_with (fail)
              exact ⟨rfl, rfl, (Below.refl _ _), rfl⟩
            · intro uF W hC' hU aF hF
              have hC : Below v9.heap.size v9 W := hC'
              clear hC'
              simp only [puts] at hF
              subst hF
              go_wp2_with (fail)
              exact ⟨rfl, rfl, (Below.refl _ _), rfl⟩
            · intro uF W hC' hU aF hF
              have hC : Below v9.heap.size v9 W := hC'
              clear hC'
              have h88 : (Det (.pointer (some ⟨w.heap.size + 1, 2, none⟩))) (uF 4) W := hU.1
              clear hU
              simp only [puts, Act.put, List.setIfInBounds_toArray, List.set_cons_zero, List.set_cons_succ] at hF
              generalize uF 4 = x88 at h88 hF
              obtain rfl : x88 = (.pointer (some ⟨w.heap.size + 1, 2, none⟩)) := h88
              subst hF
              obtain ⟨e0, e1, e2, e3, e4, e5⟩ := cells6 (Y9.below hC Y9.lt)
              go_wp2_with (fail)
              exact ⟨rfl, rfl, (Below.refl _ _), rfl⟩
            · intro uF W hC' hU aF hF
              have hC : Below v9.heap.size v9 W := hC'
              clear hC'
              simp only [puts] at hF
              subst hF
              go_wp2_with (fail)
              exact ⟨rfl, rfl, (Below.refl _ _), rfl⟩
            · intro uF W hC' hU aF hF
              have hC : Below v9.heap.size v9 W := hC'
              clear hC'
              have h85 : (Det (.int .i64 b0)) (uF 1) W := hU.1
              have h87 : (Det (.slice B1 n1 d1)) (uF 3) W := hU.2.1
              have h89 : (Det (.slice B2 n2 d2)) (uF 5) W := hU.2.2.1
              have h90 : (Det (.slice (some ⟨v2.heap.size, 0, none⟩) 32 32)) (uF 6) W := hU.2.2.2.1
              clear hU
              simp only [puts, Act.put, List.setIfInBounds_toArray, List.set_cons_zero, List.set_cons_succ] at hF
              generalize uF 1 = x85 at h85 hF
              generalize uF 3 = x87 at h87 hF
              generalize uF 5 = x89 at h89 hF
              generalize uF 6 = x90 at h90 hF
              obtain rfl : x85 = (.int .i64 b0) := h85
              obtain rfl : x87 = (.slice B1 n1 d1) := h87
              obtain rfl : x89 = (.slice B2 n2 d2) := h89
              obtain rfl : x90 = (.slice (some ⟨v2.heap.size, 0, none⟩) 32 32) := h90
              subst hF
              go_wp2_with ((go_at_call 39; refine (right_c b0 ((l91.below (hC.mono hz9)).more (Nat.le_trans hz9 hC.size)) ((l92.below (hC.mono hz9)).more (Nat.le_trans hz9 hC.size)) (sum_sl (b9.below hC b9.lt) hla) (Nat.le_refl _) (by omega) (by omega) r HR.out).mono ?_; rintro e W1 ⟨rfl, hb⟩))
              exact ⟨rfl, rfl, hb, rfl⟩
            · intro uF W hC' hU aF hF
              have hC : Below v9.heap.size v9 W := hC'
              clear hC'
              simp only [puts] at hF
              subst hF
              go_wp2_with (fail)
              exact ⟨rfl, rfl, (Below.refl _ _), rfl⟩
            · intro uF W hC' hU aF hF
              have hC : Below v9.heap.size v9 W := hC'
              clear hC'
              have h92 : (Det (.bool false)) (uF 8) W := hU.1
              clear hU
              simp only [puts, Act.put, List.setIfInBounds_toArray, List.set_cons_zero, List.set_cons_succ] at hF
              generalize uF 8 = x92 at h92 hF
              obtain rfl : x92 = (.bool false) := h92
              subst hF
              go_wp2_with (fail)
              exact ⟨rfl, rfl, (Below.refl _ _), rfl⟩
            · intro uF W hC' hU aF hF
              have hC : Below v9.heap.size v9 W := hC'
              clear hC'
              have h93 : (Det (.bool false)) (uF 9) W := hU.1
              clear hU
              simp only [puts, Act.put, List.setIfInBounds_toArray, List.set_cons_zero, List.set_cons_succ] at hF
              generalize uF 9 = x93 at h93 hF
              obtain rfl : x93 = (.bool false) := h93
              subst hF
              go_wp2_with (((with_reducible show wpList _ _ _ (Oper.mk _ (Op.load 40 _) _ _ _ _ :: _) _ _); refine wpList_load_whole (by rfl) 40 (.tmp 5) rfl v2.heap.size rfl (arr8 (ansOf a0 bs1 bs2)) agg44 (by rw [size_arr8, len_ansOf]) 40 (b9.below hC b9.lt) ?_))
              exact ⟨rfl, rfl, (Below.refl _ _), rfl⟩
            · intro uF W hC' hU aF hF
              have hC : Below v9.heap.size v9 W := hC'
              clear hC'
              have h93 : (Det (.bool false)) (uF 9) W := hU.1
              clear hU
              simp only [puts, Act.put, List.setIfInBounds_toArray, List.set_cons_zero, List.set_cons_succ] at hF
              generalize uF 9 = x93 at h93 hF
              obtain rfl : x93 = (.bool false) := h93
              subst hF
              go_wp2_with (((with_reducible show wpList _ _ _ (Oper.mk _ (Op.load 40 _) _ _ _ _ :: _) _ _); refine wpList_load_whole (by rfl) 40 (.tmp 7) rfl v7.heap.size rfl (arr8 (ansOf b0 ds1 ds2)) agg44 (by rw [size_arr8, len_ansOf]) 40 (hb9.below hC hb9.lt) ?_))
              exact ⟨rfl, rfl, (Below.refl _ _), rfl⟩
            · intro uF W hC' hU aF hF
              have hC : Below v9.heap.size v9 W := hC'
              clear hC'
              have h94 : (Det (.agg (arr8 (ansOf a0 bs1 bs2)))) (uF 10) W := hU.1
              have h95 : (Det (.agg (arr8 (ansOf b0 ds1 ds2)))) (uF 11) W := hU.2.1
              have h93 : (Det (.bool false)) (uF 9) W := hU.2.2.1
              clear hU
              simp only [puts, Act.put, List.setIfInBounds_toArray, List.set_cons_zero, List.set_cons_succ] at hF
              generalize uF 10 = x94 at h94 hF
              generalize uF 11 = x95 at h95 hF
              generalize uF 9 = x93 at h93 hF
              obtain rfl : x94 = (.agg (arr8 (ansOf a0 bs1 bs2))) := h94
              obtain rfl : x95 = (.agg (arr8 (ansOf b0 ds1 ds2))) := h95
              obtain rfl : x93 = (.bool false) := h93
              subst hF
              have he := eq44 (ansOf a0 bs1 bs2) (ansOf b0 ds1 ds2) hla hlb r HR2.out
              have hg := guard44
              go_wp2_with (fail)
              exact ⟨rfl, rfl, (Below.refl _ _), rfl⟩
            · intro uF W hC' hU aF hF
              have hC : Below v9.heap.size v9 W := hC'
              clear hC'
              have h93 : (Det (.bool false)) (uF 9) W := hU.1
              have h96 : (Det (.bool r)) (uF 12) W := hU.2.1
              clear hU
              simp only [puts, Act.put, List.setIfInBounds_toArray, List.set_cons_zero, List.set_cons_succ] at hF
              generalize uF 9 = x93 at h93 hF
              generalize uF 12 = x96 at h96 hF
              obtain rfl : x93 = (.bool false) := h93
              obtain rfl : x96 = (.bool r) := h96
              subst hF
              go_wp2_with (fail)
              exact ⟨rfl, rfl, (Below.refl _ _), rfl⟩
            · intro uF W hC' hU aF hF
              have hC : Below v9.heap.size v9 W := hC'
              clear hC'
              have h91 : (Det (.bool r)) (uF 7) W := hU.1
              have h97 : (Det (.bool r)) (uF 13) W := hU.2.1
              clear hU
              simp only [puts, Act.put, List.setIfInBounds_toArray, List.set_cons_zero, List.set_cons_succ] at hF
              generalize uF 7 = x91 at h91 hF
              generalize uF 13 = x97 at h97 hF
              obtain rfl : x91 = (.bool r) := h91
              obtain rfl : x97 = (.bool r) := h97
              subst hF
              go_wp2_with (fail)
              exact ⟨rfl, rfl, (Below.refl _ _), rfl⟩
            · intro uF W hC' hU aF hF
              have hC : Below v9.heap.size v9 W := hC'
              clear hC'
              have h98 : (Det (.bool true)) (uF 14) W := hU.1
              clear hU
              simp only [puts, Act.put, List.setIfInBounds_toArray, List.set_cons_zero, List.set_cons_succ] at hF
              generalize uF 14 = x98 at h98 hF
              obtain rfl : x98 = (.bool true) := h98
              subst hF
              go_wp2_with (fail)
              exact ⟨rfl, rfl, (Below.refl _ _), rfl⟩
          intro uF v10 hC' hU aF hF
          have hCv10 : Below v9.heap.size v9 v10 := hC'
          clear hC'
          have h4 : (Det (.bool true)) (uF 15) v10 := hU.2.2.2.2.2.2.2.2.2.2.2.2.2.2.2.1
          clear hU
          simp only [puts, Act.put, List.setIfInBounds_toArray, List.set_cons_zero, List.set_cons_succ] at hF
          generalize uF 0 = x84 at hF
          generalize uF 1 = x85 at hF
          generalize uF 2 = x86 at hF
          generalize uF 3 = x87 at hF
          generalize uF 4 = x88 at hF
          generalize uF 5 = x89 at hF
          generalize uF 6 = x90 at hF
          generalize uF 7 = x91 at hF
          generalize uF 8 = x92 at hF
          generalize uF 9 = x93 at hF
          generalize uF 10 = x94 at hF
          generalize uF 11 = x95 at hF
          generalize uF 12 = x96 at hF
          generalize uF 13 = x97 at hF
          generalize uF 14 = x98 at hF
          generalize uF 15 = x4 at h4 hF
          obtain rfl : x4 = (.bool true) := h4
          subst hF
          go_wp2_with fail
          go_ret
          exact ⟨rfl, hw9.trans (hCv10.mono hz9)⟩
        · skip
          have HR := Lib.hid hr
          have HR2 := Lib.hid hr'
          have H1 := Lib.hid h1
          have H2 := Lib.hid h2
          clear hr hr' h1 h2
          go_wp2_with (first
            | (go_at_call 40; (with_reducible show Calls _ _ #[.slice A1 n1 c1, .slice B1 n1 d1] _ _); refine (same_c k61 l61 _ H1.out).mono ?_; rintro e W1 ⟨rfl, rfl⟩)
            | (go_at_call 40; (with_reducible show Calls _ _ #[.slice A2 n2 c2, .slice B2 n2 d2] _ _); refine (same_c k62 l62 _ H2.out).mono ?_; rintro e W1 ⟨rfl, rfl⟩)
            | (go_at_call 37; refine (refanswer_c b0 l61 l62 hz6 (by omega) (by omega)).mono ?_; rintro e v7 ⟨rfl, hb7⟩; have b8 := Blk.new v7 40 (arr8 (z8' 32)))
            | ((with_reducible show wpList _ _ _ (Oper.mk _ (Op.alloc 40) _ _ _ _ :: _) _ _); refine wpList_alloc_agg rfl 40 rfl (arr8 (z8' 32)) zero44 ?_; (try rw [World.size_alloc]))
            | ((with_reducible show wpList _ _ _ (Oper.mk none (Op.store 40 (.tmp 7) _) _ _ _ _ :: _) _ _); refine wpList_store8 rfl 40 (.tmp 7) (.tmp 83) rfl v7.heap.size rfl (ansOf b0 ds1 ds2) rfl agg44 hlb _ _ b8 (by rw [size_arr8, len_z8']) ?_; intro v9 hb9 hg9 hs9; simp only [Act.put, List.setIfInBounds_toArray, List.set_cons_succ, List.set_cons_zero]))
          have h69 : Below v6.heap.size v6 v9 := (hb7.alloc hb7.size _).grown hg9 (Nat.le_trans hb7.size (by simp)) (fun k hk => by cases hk; exact hb7.size)
          have hw9 : Below w.heap.size w v9 := hw6.trans (h69.mono hz6)
          have hz9 := hw9.size
          have Y9 := Y6.below h69 Y6.lt
          have b9 := b6.below h69 b6.lt
          have l91 := U1.out.below hw9
          have l92 := U2.out.below hw9
          clear hs9 hg9 b8 hb7 h69 e0 e1 e2 e3 e4 e5 f0 f1 f2 f3 f4 f5 hbi
          refine wp_region_rel (fun W W' => Below W.heap.size W W') (fun W => Below v9.heap.size v9 W)
            [Det (.pointer (some ⟨w.heap.size + 1, 0, none⟩)), Det (.int .i64 b0), Det (.pointer (some ⟨w.heap.size + 1, 1, none⟩)), Det (.slice B1 n1 d1), Det (.pointer (some ⟨w.heap.size + 1, 2, none⟩)), Det (.slice B2 n2 d2), Det (.slice (some ⟨v2.heap.size, 0, none⟩) 32 32), Det (.bool r), Det (.bool false), Det (.bool false), Det (.agg (arr8 (ansOf a0 bs1 bs2))), Det (.agg (arr8 (ansOf b0 ds1 ds2))), Det (.bool r), Det (.bool r), Det (.bool true), Det (.bool true)]
            [[], [(0, some 84)], [], [(2, some 86)], [], [(4, some 88)], [], [(1, some 85), (3, some 87), (5, some 89), (6, some 90)], [], [(8, some 92)], [(9, some 93)], [(9, some 93)], [(10, some 94), (11, some 95), (9, some 93)], [(9, some 93), (12, some 96)], [(7, some 91), (13, some 97)], [(14, some 98)]]
            [[], [0], [], [2], [], [4], [], [0, 1, 2, 3, 4, 5, 6], [], [0, 1, 2, 3, 4, 5, 6, 7, 8], [0, 1, 2, 3, 4, 5, 6, 7, 8, 9], [0, 1, 2, 3, 4, 5, 6, 7, 8, 9], [0, 1, 2, 3, 4, 5, 6, 7, 8, 9, 10, 11], [0, 1, 2, 3, 4, 5, 6, 7, 8, 9, 10, 11, 12], [0, 1, 2, 3, 4, 5, 6, 7, 8, 9, 10, 11, 12, 13], [0, 1, 2, 3, 4, 5, 6, 7, 8, 9, 10, 11, 12, 13, 14]]
            [(0, some 84), (1, some 85), (2, some 86), (3, some 87), (4, some 88), (5, some 89), (6, some 90), (7, some 91), (8, some 92), (9, some 93), (10, some 94), (11, some 95), (12, some 96), (13, some 97), (14, some 98), (15, some 4)] (by kernel_rfl) (by kernel_rfl) (fun W W' h1 h2 => h1.trans (h2.mono h1.size)) ((Below.refl _ _).drew) ?_ ?_ ?_
          · exact (AllMono.cons Det.later (AllMono.cons Det.later (AllMono.cons Det.later (AllMono.cons Det.later (AllMono.cons Det.later (AllMono.cons Det.later (AllMono.cons Det.later (AllMono.cons Det.later (AllMono.cons Det.later (AllMono.cons Det.later (AllMono.cons Det.later (AllMono.cons Det.later (AllMono.cons Det.later (AllMono.cons Det.later (AllMono.cons Det.later (AllMono.cons Det.later AllMono.nil))))))))))))))))
          · refine AllOb.cons ?_ (AllOb.cons ?_ (AllOb.cons ?_ (AllOb.cons ?_ (AllOb.cons ?_ (AllOb.cons ?_ (AllOb.cons ?_ (AllOb.cons ?_ (AllOb.cons ?_ (AllOb.cons ?_ (AllOb.cons ?_ (AllOb.cons ?_ (AllOb.cons ?_ (AllOb.cons ?_ (AllOb.cons ?_ (AllOb.cons ?_ (AllOb.nil))))))))))))))))
            · intro uF W hC' hU aF hF
              have hC : Below v9.heap.size v9 W := hC'
              clear hC'
              simp only [puts] at hF
              subst hF
              go_wp2_with (fail)
              exact ⟨rfl, rfl, (Below.refl _ _), rfl⟩
            · intro uF W hC' hU aF hF
              have hC : Below v9.heap.size v9 W := hC'
              clear hC'
              have h84 : (Det (.pointer (some ⟨w.heap.size + 1, 0, none⟩))) (uF 0) W := hU.1
              clear hU
              simp only [puts, Act.put, List.setIfInBounds_toArray, List.set_cons_zero, List.set_cons_succ] at hF
              generalize uF 0 = x84 at h84 hF
              obtain rfl : x84 = (.pointer (some ⟨w.heap.size + 1, 0, none⟩)) := h84
              subst hF
              obtain ⟨e0, e1, e2, e3, e4, e5⟩ := cells6 (Y9.below hC Y9.lt)
              go_wp2_with (fail)
              exact ⟨rfl, rfl, (Below.refl _ _), rfl⟩
            · intro uF W hC' hU aF hF
              have hC : Below v9.heap.size v9 W := hC'
              clear hC'
              simp only [puts] at hF
              subst hF
              go_wp2_with (fail)
              exact ⟨rfl, rfl, (Below.refl _ _), rfl⟩
            · intro uF W hC' hU aF hF
              have hC : Below v9.heap.size v9 W := hC'
              clear hC'
              have h86 : (Det (.pointer (some ⟨w.heap.size + 1, 1, none⟩))) (uF 2) W := hU.1
              clear hU
              simp only [puts, Act.put, List.setIfInBounds_toArray, List.set_cons_zero, List.set_cons_succ] at hF
              generalize uF 2 = x86 at h86 hF
              obtain rfl : x86 = (.pointer (some ⟨w.heap.size + 1, 1, none⟩)) := h86
              subst hF
              obtain ⟨e0, e1, e2, e3, e4, e5⟩ := cells6 (Y9.below hC Y9.lt)
              go_wp2_with (fail)
              exact ⟨rfl, rfl, (Below.refl _ _), rfl⟩
            · intro uF W hC' hU aF hF
              have hC : Below v9.heap.size v9 W := hC'
              clear hC'
              simp only [puts] at hF
              subst hF
              go_wp2_with (fail)
              exact ⟨rfl, rfl, (Below.refl _ _), rfl⟩
            · intro uF W hC' hU aF hF
              have hC : Below v9.heap.size v9 W := hC'
              clear hC'
              have h88 : (Det (.pointer (some ⟨w.heap.size + 1, 2, none⟩))) (uF 4) W := hU.1
              clear hU
              simp only [puts, Act.put, List.setIfInBounds_toArray, List.set_cons_zero, List.set_cons_succ] at hF
              generalize uF 4 = x88 at h88 hF
              obtain rfl : x88 = (.pointer (some ⟨w.heap.size + 1, 2, none⟩)) := h88
              subst hF
              obtain ⟨e0, e1, e2, e3, e4, e5⟩ := cells6 (Y9.below hC Y9.lt)
              go_wp2_with (fail)
              exact ⟨rfl, rfl, (Below.refl _ _), rfl⟩
            · intro uF W hC' hU aF hF
              have hC : Below v9.heap.size v9 W := hC'
              clear hC'
              simp only [puts] at hF
              subst hF
              go_wp2_with (fail)
              exact ⟨rfl, rfl, (Below.refl _ _), rfl⟩
            · intro uF W hC' hU aF hF
              have hC : Below v9.heap.size v9 W := hC'
              clear hC'
              have h85 : (Det (.int .i64 b0)) (uF 1) W := hU.1
              have h87 : (Det (.slice B1 n1 d1)) (uF 3) W := hU.2.1
              have h89 : (Det (.slice B2 n2 d2)) (uF 5) W := hU.2.2.1
              have h90 : (Det (.slice (some ⟨v2.heap.size, 0, none⟩) 32 32)) (uF 6) W := hU.2.2.2.1
              clear hU
              simp only [puts, Act.put, List.setIfInBounds_toArray, List.set_cons_zero, List.set_cons_succ] at hF
              generalize uF 1 = x85 at h85 hF
              generalize uF 3 = x87 at h87 hF
              generalize uF 5 = x89 at h89 hF
              generalize uF 6 = x90 at h90 hF
              obtain rfl : x85 = (.int .i64 b0) := h85
              obtain rfl : x87 = (.slice B1 n1 d1) := h87
              obtain rfl : x89 = (.slice B2 n2 d2) := h89
              obtain rfl : x90 = (.slice (some ⟨v2.heap.size, 0, none⟩) 32 32) := h90
              subst hF
              go_wp2_with ((go_at_call 39; refine (right_c b0 ((l91.below (hC.mono hz9)).more (Nat.le_trans hz9 hC.size)) ((l92.below (hC.mono hz9)).more (Nat.le_trans hz9 hC.size)) (sum_sl (b9.below hC b9.lt) hla) (Nat.le_refl _) (by omega) (by omega) r HR.out).mono ?_; rintro e W1 ⟨rfl, hb⟩))
              exact ⟨rfl, rfl, hb, rfl⟩
            · intro uF W hC' hU aF hF
              have hC : Below v9.heap.size v9 W := hC'
              clear hC'
              simp only [puts] at hF
              subst hF
              go_wp2_with (fail)
              exact ⟨rfl, rfl, (Below.refl _ _), rfl⟩
            · intro uF W hC' hU aF hF
              have hC : Below v9.heap.size v9 W := hC'
              clear hC'
              have h92 : (Det (.bool false)) (uF 8) W := hU.1
              clear hU
              simp only [puts, Act.put, List.setIfInBounds_toArray, List.set_cons_zero, List.set_cons_succ] at hF
              generalize uF 8 = x92 at h92 hF
              obtain rfl : x92 = (.bool false) := h92
              subst hF
              go_wp2_with (fail)
              exact ⟨rfl, rfl, (Below.refl _ _), rfl⟩
            · intro uF W hC' hU aF hF
              have hC : Below v9.heap.size v9 W := hC'
              clear hC'
              have h93 : (Det (.bool false)) (uF 9) W := hU.1
              clear hU
              simp only [puts, Act.put, List.setIfInBounds_toArray, List.set_cons_zero, List.set_cons_succ] at hF
              generalize uF 9 = x93 at h93 hF
              obtain rfl : x93 = (.bool false) := h93
              subst hF
              go_wp2_with (((with_reducible show wpList _ _ _ (Oper.mk _ (Op.load 40 _) _ _ _ _ :: _) _ _); refine wpList_load_whole (by rfl) 40 (.tmp 5) rfl v2.heap.size rfl (arr8 (ansOf a0 bs1 bs2)) agg44 (by rw [size_arr8, len_ansOf]) 40 (b9.below hC b9.lt) ?_))
              exact ⟨rfl, rfl, (Below.refl _ _), rfl⟩
            · intro uF W hC' hU aF hF
              have hC : Below v9.heap.size v9 W := hC'
              clear hC'
              have h93 : (Det (.bool false)) (uF 9) W := hU.1
              clear hU
              simp only [puts, Act.put, List.setIfInBounds_toArray, List.set_cons_zero, List.set_cons_succ] at hF
              generalize uF 9 = x93 at h93 hF
              obtain rfl : x93 = (.bool false) := h93
              subst hF
              go_wp2_with (((with_reducible show wpList _ _ _ (Oper.mk _ (Op.load 40 _) _ _ _ _ :: _) _ _); refine wpList_load_whole (by rfl) 40 (.tmp 7) rfl v7.heap.size rfl (arr8 (ansOf b0 ds1 ds2)) agg44 (by rw [size_arr8, len_ansOf]) 40 (hb9.below hC hb9.lt) ?_))
              exact ⟨rfl, rfl, (Below.refl _ _), rfl⟩
            · intro uF W hC' hU aF hF
              have hC : Below v9.heap.size v9 W := hC'
              clear hC'
              have h94 : (Det (.agg (arr8 (ansOf a0 bs1 bs2)))) (uF 10) W := hU.1
              have h95 : (Det (.agg (arr8 (ansOf b0 ds1 ds2)))) (uF 11) W := hU.2.1
              have h93 : (Det (.bool false)) (uF 9) W := hU.2.2.1
              clear hU
              simp only [puts, Act.put, List.setIfInBounds_toArray, List.set_cons_zero, List.set_cons_succ] at hF
              generalize uF 10 = x94 at h94 hF
              generalize uF 11 = x95 at h95 hF
              generalize uF 9 = x93 at h93 hF
              obtain rfl : x94 = (.agg (arr8 (ansOf a0 bs1 bs2))) := h94
              obtain rfl : x95 = (.agg (arr8 (ansOf b0 ds1 ds2))) := h95
              obtain rfl : x93 = (.bool false) := h93
              subst hF
              have he := eq44 (ansOf a0 bs1 bs2) (ansOf b0 ds1 ds2) hla hlb r HR2.out
              have hg := guard44
              go_wp2_with (fail)
              exact ⟨rfl, rfl, (Below.refl _ _), rfl⟩
            · intro uF W hC' hU aF hF
              have hC : Below v9.heap.size v9 W := hC'
              clear hC'
              have h93 : (Det (.bool false)) (uF 9) W := hU.1
              have h96 : (Det (.bool r)) (uF 12) W := hU.2.1
              clear hU
              simp only [puts, Act.put, List.setIfInBounds_toArray, List.set_cons_zero, List.set_cons_succ] at hF
              generalize uF 9 = x93 at h93 hF
              generalize uF 12 = x96 at h96 hF
              obtain rfl : x93 = (.bool false) := h93
              obtain rfl : x96 = (.bool r) := h96
              subst hF
              go_wp2_with (fail)
              exact ⟨rfl, rfl, (Below.refl _ _), rfl⟩
            · intro uF W hC' hU aF hF
              have hC : Below v9.heap.size v9 W := hC'
              clear hC'
              have h91 : (Det (.bool r)) (uF 7) W := hU.1
              have h97 : (Det (.bool r)) (uF 13) W := hU.2.1
              clear hU
              simp only [puts, Act.put, List.setIfInBounds_toArray, List.set_cons_zero, List.set_cons_succ] at hF
              generalize uF 7 = x91 at h91 hF
              generalize uF 13 = x97 at h97 hF
              obtain rfl : x91 = (.bool r) := h91
              obtain rfl : x97 = (.bool r) := h97
              subst hF
              go_wp2_with (fail)
              exact ⟨rfl, rfl, (Below.refl _ _), rfl⟩
            · intro uF W hC' hU aF hF
              have hC : Below v9.heap.size v9 W := hC'
              clear hC'
              have h98 : (Det (.bool true)) (uF 14) W := hU.1
              clear hU
              simp only [puts, Act.put, List.setIfInBounds_toArray, List.set_cons_zero, List.set_cons_succ] at hF
              generalize uF 14 = x98 at h98 hF
              obtain rfl : x98 = (.bool true) := h98
              subst hF
              go_wp2_with (fail)
              exact ⟨rfl, rfl, (Below.refl _ _), rfl⟩
          intro uF v10 hC' hU aF hF
          have hCv10 : Below v9.heap.size v9 v10 := hC'
          clear hC'
          have h4 : (Det (.bool true)) (uF 15) v10 := hU.2.2.2.2.2.2.2.2.2.2.2.2.2.2.2.1
          clear hU
          simp only [puts, Act.put, List.setIfInBounds_toArray, List.set_cons_zero, List.set_cons_succ] at hF
          generalize uF 0 = x84 at hF
          generalize uF 1 = x85 at hF
          generalize uF 2 = x86 at hF
          generalize uF 3 = x87 at hF
          generalize uF 4 = x88 at hF
          generalize uF 5 = x89 at hF
          generalize uF 6 = x90 at hF
          generalize uF 7 = x91 at hF
          generalize uF 8 = x92 at hF
          generalize uF 9 = x93 at hF
          generalize uF 10 = x94 at hF
          generalize uF 11 = x95 at hF
          generalize uF 12 = x96 at hF
          generalize uF 13 = x97 at hF
          generalize uF 14 = x98 at hF
          generalize uF 15 = x4 at h4 hF
          obtain rfl : x4 = (.bool true) := h4
          subst hF
          go_wp2_with fail
          go_ret
          exact ⟨rfl, hw9.trans (hCv10.mono hz9)⟩
      · have hne2 : ¬ (n2 : Int) = (m2 : Int) := by omega
        have hnb : ((n2 : Int) == (m2 : Int)) = false := by rw [beq_eq_false_iff_ne]; exact hne2
        subst hn1
        go_wp2_with fail
        go_ret
        exact ⟨rfl, hw6⟩
    · have hne1 : ¬ (n1 : Int) = (m1 : Int) := by omega
      have hnb : ((n1 : Int) == (m1 : Int)) = false := by rw [beq_eq_false_iff_ne]; exact hne1
      go_wp2_with fail
      go_ret
      exact ⟨rfl, hw6⟩
end Go.Proofs.Ytbjiokjmidipaaa.chapBound

