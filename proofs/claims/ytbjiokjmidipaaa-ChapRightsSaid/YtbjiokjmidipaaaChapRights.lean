/-
  ChapRights: which answers are right.
-/
import Derived.Test.YtbjiokjmidipaaaChap
namespace Go.Proofs.Ytbjiokjmidipaaa.chapRights
open Go.RowKit
set_option linter.unusedVariables false
set_option linter.unusedSimpArgs false
set_option maxRecDepth 100000

theorem cells6 {w : World} {g : Nat} {T : TypeId} {a b c d e f : Value} (h : Blk w g T #[a, b, c, d, e, f]) : w.cell? ⟨g, 0, none⟩ = some a ∧ w.cell? ⟨g, 1, none⟩ = some b ∧ w.cell? ⟨g, 2, none⟩ = some c ∧ w.cell? ⟨g, 3, none⟩ = some d ∧ w.cell? ⟨g, 4, none⟩ = some e ∧ w.cell? ⟨g, 5, none⟩ = some f :=
  ⟨h.cell 0, h.cell 1, h.cell 2, h.cell 3, h.cell 4, h.cell 5⟩
theorem wrap_u64_nn (x : Int) : 0 ≤ IntKind.u64.wrap x := by rw [wrap_u64]; omega
theorem take_ne {xs : List UInt8} (h : xs.length = 32) : (xs == xs.take 31) = false := by
  rw [beq_eq_false_iff_ne]
  intro e
  have := congrArg List.length e
  rw [List.length_take, h] at this
  omega

theorem bit8 (r : Nat) (h : r < 8) : ((2 : Int) ^ r % 256) = ((UInt8.ofNat (2 ^ r)).toNat : Int) ∧ UInt8.ofNat (2 ^ r) ≠ 0 := by
  match r, h with
  | 0, _ => decide
  | 1, _ => decide
  | 2, _ => decide
  | 3, _ => decide
  | 4, _ => decide
  | 5, _ => decide
  | 6, _ => decide
  | 7, _ => decide
theorem xor_ne {y m : UInt8} (h : m ≠ 0) : y ^^^ m ≠ y := fun e => h (by
  have : y ^^^ (y ^^^ m) = 0 := by rw [e]; simp
  rwa [← UInt8.xor_assoc, UInt8.xor_self, UInt8.zero_xor] at this)
theorem arr8_set (bs : List UInt8) (q : Nat) (x : UInt8) : (arr8 bs).setIfInBounds q (.int .u8 (x.toNat : Int)) = arr8 (bs.set q x) := by
  simp [arr8, List.map_set, b8]

set_option maxHeartbeats 2000000 in
theorem walk (cs0 : List Value) (w : World) (R0 : Rds w (.cons (.int .i64) (.cons (.slice (.int .u8) 1 1) (.cons (.slice (.int .u8) 1 1) (.cons (.slice (.int .u8) 1 1) (.cons .bool (.cons (.int .i64) .nil)))))) cs0) :
    Calls Try.prog 17 #[.agg cs0.toArray] w fun e w' => e = .returned (.bool true) ∧ Below w.heap.size w w' := by
  obtain ⟨_, _, rfl, r0, _, _, rfl, r1, _, _, rfl, r2, _, _, rfl, r3, _, _, rfl, r4, _, _, rfl, r5, rfl⟩ := R0
  obtain ⟨a0, rfl, x0⟩ := r0
  obtain ⟨A1, n1, c1, bs1, rfl, w1, y1⟩ := Rds.bytes r1
  obtain ⟨A2, n2, c2, bs2, rfl, w2, y2⟩ := Rds.bytes r2
  obtain ⟨A3, n3, c3, bs3, rfl, w3, y3⟩ := Rds.bytes r3
  obtain ⟨own, rfl⟩ := r4
  obtain ⟨bit, rfl, x5⟩ := r5
  clear r1 r2 r3
  simp only [List.cons_append, List.nil_append]
  have hnb1 : n1 ≤ 140737488351232 := Nat.le_trans w1.le y1
  have hnb2 : n2 ≤ 140737488351232 := Nat.le_trans w2.le y2
  have hb1 := below_alloc w (.cells #[.int .i64 a0, .slice A1 n1 c1, .slice A2 n2 c2, .slice A3 n3 c3, .bool own, .int .i64 bit] 71)
  by_cases hbig : 4096 < n1 + n2
  · have hbi : (4096 : Int) < (n1 : Int) + (n2 : Int) := by omega
    clear w1 w2 w3
    go_enter Try.func17, Try.ntmps17
    go_wp2_with fail
    go_ret
    exact ⟨rfl, hb1⟩
  · have hbi : ¬ (4096 : Int) < (n1 : Int) + (n2 : Int) := by omega
    have X1 := Blk.new w 71 #[.int .i64 a0, .slice A1 n1 c1, .slice A2 n2 c2, .slice A3 n3 c3, .bool own, .int .i64 bit]
    obtain ⟨v1, hv1⟩ : ∃ v1, v1 = w.alloc (.cells #[.int .i64 a0, .slice A1 n1 c1, .slice A2 n2 c2, .slice A3 n3 c3, .bool own, .int .i64 bit] 71) := ⟨_, rfl⟩
    rw [← hv1] at hb1 X1
    have hz1 := hb1.size
    have HV := Lib.hid hv1
    have W1 := Lib.hid w1
    have W2 := Lib.hid w2
    have W3 := Lib.hid w3
    clear hv1 w1 w2 w3
    have hla := len_ansOf a0 bs1 bs2
    go_enter Try.func17, Try.ntmps17
    go_wp2_with (first
      | (go_at_call 37; rw [← HV.out]; refine (refanswer_c a0 (W1.out.below hb1) (W2.out.below hb1) hz1 (by omega) (by omega)).mono ?_; rintro e v2 ⟨rfl, hb2⟩; have b3 := Blk.new v2 40 (arr8 (z8' 32)))
      | ((with_reducible show wpList _ _ _ (Oper.mk _ (Op.alloc 40) _ _ _ _ :: _) _ _); refine wpList_alloc_agg rfl 40 rfl (arr8 (z8' 32)) zero44 ?_; (try rw [World.size_alloc]))
      | ((with_reducible show wpList _ _ _ (Oper.mk none (Op.store 40 (.tmp 3) _) _ _ _ _ :: _) _ _); refine wpList_store8 rfl 40 (.tmp 3) (.tmp 19) rfl v2.heap.size rfl (ansOf a0 bs1 bs2) rfl agg44 hla _ _ b3 (by rw [size_arr8, len_z8']) ?_; intro v5 hb5 hg5 hs5; simp only [Act.put, List.setIfInBounds_toArray, List.set_cons_succ, List.set_cons_zero]))
    have h15 : Below v1.heap.size v1 v5 := (hb2.alloc hb2.size _).grown hg5 (Nat.le_trans hb2.size (by simp)) (fun k hk => by cases hk; exact hb2.size)
    have hw5 : Below w.heap.size w v5 := hb1.trans (h15.mono hz1)
    have hz5 := hw5.size
    have X5 := X1.below h15 X1.lt
    have k1 := W1.out.below hw5
    have k2 := W2.out.below hw5
    have k3 := W3.out.below hw5
    have hlt : w.heap.size < v2.heap.size := Nat.lt_of_lt_of_le X1.lt hb2.size
    have hall := arr_all_run (P := Try.prog) (T := 40) Try.underlying40 size1 (by omega) v2.heap.size
    have h31 := arr_to_run (P := Try.prog) (T := 40) Try.underlying40 size1 (by omega) v2.heap.size 31 31 rfl (by omega)
    clear hs5 hg5 b3 hb2 h15 X1
    refine wp_region_rel (fun W W' => Below W.heap.size W W') (fun W => Below v5.heap.size v5 W)
      [Det (.pointer (some ⟨w.heap.size, 0, none⟩)), Det (.int .i64 a0), Det (.pointer (some ⟨w.heap.size, 1, none⟩)), Det (.slice A1 n1 c1), Det (.pointer (some ⟨w.heap.size, 2, none⟩)), Det (.slice A2 n2 c2), Det (.slice (some ⟨v2.heap.size, 0, none⟩) 32 32), Det (.bool true), Det (.bool false), Det (.bool false), Det (.pointer (some ⟨w.heap.size, 0, none⟩)), Det (.int .i64 a0), Det (.pointer (some ⟨w.heap.size, 1, none⟩)), Det (.slice A1 n1 c1), Det (.pointer (some ⟨w.heap.size, 2, none⟩)), Det (.slice A2 n2 c2), Det (.slice (some ⟨v2.heap.size, 0, none⟩) 31 32), Det (.bool false), Det (.bool false)]
      [[], [(0, some 20)], [], [(2, some 22)], [], [(4, some 24)], [], [(1, some 21), (3, some 23), (5, some 25), (6, some 26)], [(7, some 27)], [(8, some 28)], [(9, some 29)], [(10, some 30), (9, some 29)], [(9, some 29)], [(12, some 32), (9, some 29)], [(9, some 29)], [(14, some 34), (9, some 29)], [(9, some 29)], [(11, some 31), (13, some 33), (15, some 35), (16, some 36), (9, some 29)], [(9, some 29), (17, some 37)]]
      [[], [0], [], [2], [], [4], [], [0, 1, 2, 3, 4, 5, 6], [0, 1, 2, 3, 4, 5, 6, 7], [0, 1, 2, 3, 4, 5, 6, 7, 8], [0, 1, 2, 3, 4, 5, 6, 7, 8, 9], [0, 1, 2, 3, 4, 5, 6, 7, 8, 9, 10], [0, 1, 2, 3, 4, 5, 6, 7, 8, 9], [0, 1, 2, 3, 4, 5, 6, 7, 8, 9, 12], [0, 1, 2, 3, 4, 5, 6, 7, 8, 9], [0, 1, 2, 3, 4, 5, 6, 7, 8, 9, 14], [0, 1, 2, 3, 4, 5, 6, 7, 8, 9], [0, 1, 2, 3, 4, 5, 6, 7, 8, 9, 10, 11, 12, 13, 14, 15, 16], [0, 1, 2, 3, 4, 5, 6, 7, 8, 9, 10, 11, 12, 13, 14, 15, 16, 17]]
      [(0, some 20), (1, some 21), (2, some 22), (3, some 23), (4, some 24), (5, some 25), (6, some 26), (7, some 27), (8, some 28), (9, some 29), (10, some 30), (11, some 31), (12, some 32), (13, some 33), (14, some 34), (15, some 35), (16, some 36), (17, some 37), (18, some 38)] (by kernel_rfl) (by kernel_rfl) (fun W W' h1 h2 => h1.trans (h2.mono h1.size)) ((Below.refl _ _).drew) ?_ ?_ ?_
    · exact (AllMono.cons Det.later (AllMono.cons Det.later (AllMono.cons Det.later (AllMono.cons Det.later (AllMono.cons Det.later (AllMono.cons Det.later (AllMono.cons Det.later (AllMono.cons Det.later (AllMono.cons Det.later (AllMono.cons Det.later (AllMono.cons Det.later (AllMono.cons Det.later (AllMono.cons Det.later (AllMono.cons Det.later (AllMono.cons Det.later (AllMono.cons Det.later (AllMono.cons Det.later (AllMono.cons Det.later (AllMono.cons Det.later AllMono.nil)))))))))))))))))))
    · refine AllOb.cons ?_ (AllOb.cons ?_ (AllOb.cons ?_ (AllOb.cons ?_ (AllOb.cons ?_ (AllOb.cons ?_ (AllOb.cons ?_ (AllOb.cons ?_ (AllOb.cons ?_ (AllOb.cons ?_ (AllOb.cons ?_ (AllOb.cons ?_ (AllOb.cons ?_ (AllOb.cons ?_ (AllOb.cons ?_ (AllOb.cons ?_ (AllOb.cons ?_ (AllOb.cons ?_ (AllOb.cons ?_ (AllOb.nil)))))))))))))))))))
      · intro uF W hC' hU aF hF
        have hC : Below v5.heap.size v5 W := hC'
        clear hC'
        simp only [puts] at hF
        subst hF
        go_wp2_with (fail)
        exact ⟨rfl, rfl, (Below.refl _ _), rfl⟩
      · intro uF W hC' hU aF hF
        have hC : Below v5.heap.size v5 W := hC'
        clear hC'
        have h20 : (Det (.pointer (some ⟨w.heap.size, 0, none⟩))) (uF 0) W := hU.1
        clear hU
        simp only [puts, Act.put, List.setIfInBounds_toArray, List.set_cons_zero, List.set_cons_succ] at hF
        generalize uF 0 = x20 at h20 hF
        obtain rfl : x20 = (.pointer (some ⟨w.heap.size, 0, none⟩)) := h20
        subst hF
        obtain ⟨e0, e1, e2, e3, e4, e5⟩ := cells6 (X5.below hC X5.lt)
        go_wp2_with (fail)
        exact ⟨rfl, rfl, (Below.refl _ _), rfl⟩
      · intro uF W hC' hU aF hF
        have hC : Below v5.heap.size v5 W := hC'
        clear hC'
        simp only [puts] at hF
        subst hF
        go_wp2_with (fail)
        exact ⟨rfl, rfl, (Below.refl _ _), rfl⟩
      · intro uF W hC' hU aF hF
        have hC : Below v5.heap.size v5 W := hC'
        clear hC'
        have h22 : (Det (.pointer (some ⟨w.heap.size, 1, none⟩))) (uF 2) W := hU.1
        clear hU
        simp only [puts, Act.put, List.setIfInBounds_toArray, List.set_cons_zero, List.set_cons_succ] at hF
        generalize uF 2 = x22 at h22 hF
        obtain rfl : x22 = (.pointer (some ⟨w.heap.size, 1, none⟩)) := h22
        subst hF
        obtain ⟨e0, e1, e2, e3, e4, e5⟩ := cells6 (X5.below hC X5.lt)
        go_wp2_with (fail)
        exact ⟨rfl, rfl, (Below.refl _ _), rfl⟩
      · intro uF W hC' hU aF hF
        have hC : Below v5.heap.size v5 W := hC'
        clear hC'
        simp only [puts] at hF
        subst hF
        go_wp2_with (fail)
        exact ⟨rfl, rfl, (Below.refl _ _), rfl⟩
      · intro uF W hC' hU aF hF
        have hC : Below v5.heap.size v5 W := hC'
        clear hC'
        have h24 : (Det (.pointer (some ⟨w.heap.size, 2, none⟩))) (uF 4) W := hU.1
        clear hU
        simp only [puts, Act.put, List.setIfInBounds_toArray, List.set_cons_zero, List.set_cons_succ] at hF
        generalize uF 4 = x24 at h24 hF
        obtain rfl : x24 = (.pointer (some ⟨w.heap.size, 2, none⟩)) := h24
        subst hF
        obtain ⟨e0, e1, e2, e3, e4, e5⟩ := cells6 (X5.below hC X5.lt)
        go_wp2_with (fail)
        exact ⟨rfl, rfl, (Below.refl _ _), rfl⟩
      · intro uF W hC' hU aF hF
        have hC : Below v5.heap.size v5 W := hC'
        clear hC'
        simp only [puts] at hF
        subst hF
        go_wp2_with (fail)
        exact ⟨rfl, rfl, (Below.refl _ _), rfl⟩
      · intro uF W hC' hU aF hF
        have hC : Below v5.heap.size v5 W := hC'
        clear hC'
        have h21 : (Det (.int .i64 a0)) (uF 1) W := hU.1
        have h23 : (Det (.slice A1 n1 c1)) (uF 3) W := hU.2.1
        have h25 : (Det (.slice A2 n2 c2)) (uF 5) W := hU.2.2.1
        have h26 : (Det (.slice (some ⟨v2.heap.size, 0, none⟩) 32 32)) (uF 6) W := hU.2.2.2.1
        clear hU
        simp only [puts, Act.put, List.setIfInBounds_toArray, List.set_cons_zero, List.set_cons_succ] at hF
        generalize uF 1 = x21 at h21 hF
        generalize uF 3 = x23 at h23 hF
        generalize uF 5 = x25 at h25 hF
        generalize uF 6 = x26 at h26 hF
        obtain rfl : x21 = (.int .i64 a0) := h21
        obtain rfl : x23 = (.slice A1 n1 c1) := h23
        obtain rfl : x25 = (.slice A2 n2 c2) := h25
        obtain rfl : x26 = (.slice (some ⟨v2.heap.size, 0, none⟩) 32 32) := h26
        subst hF
        go_wp2_with ((go_at_call 39; refine (right_c a0 ((k1.below (hC.mono hz5)).more (Nat.le_trans hz5 hC.size)) ((k2.below (hC.mono hz5)).more (Nat.le_trans hz5 hC.size)) (sum_sl (hb5.below hC hb5.lt) hla) (Nat.le_refl _) (by omega) (by omega) true (by simp)).mono ?_; rintro e W1 ⟨rfl, hb⟩))
        exact ⟨rfl, rfl, hb, rfl⟩
      · intro uF W hC' hU aF hF
        have hC : Below v5.heap.size v5 W := hC'
        clear hC'
        have h27 : (Det (.bool true)) (uF 7) W := hU.1
        clear hU
        simp only [puts, Act.put, List.setIfInBounds_toArray, List.set_cons_zero, List.set_cons_succ] at hF
        generalize uF 7 = x27 at h27 hF
        obtain rfl : x27 = (.bool true) := h27
        subst hF
        go_wp2_with (fail)
        exact ⟨rfl, rfl, (Below.refl _ _), rfl⟩
      · intro uF W hC' hU aF hF
        have hC : Below v5.heap.size v5 W := hC'
        clear hC'
        have h28 : (Det (.bool false)) (uF 8) W := hU.1
        clear hU
        simp only [puts, Act.put, List.setIfInBounds_toArray, List.set_cons_zero, List.set_cons_succ] at hF
        generalize uF 8 = x28 at h28 hF
        obtain rfl : x28 = (.bool false) := h28
        subst hF
        go_wp2_with (fail)
        exact ⟨rfl, rfl, (Below.refl _ _), rfl⟩
      · intro uF W hC' hU aF hF
        have hC : Below v5.heap.size v5 W := hC'
        clear hC'
        have h29 : (Det (.bool false)) (uF 9) W := hU.1
        clear hU
        simp only [puts, Act.put, List.setIfInBounds_toArray, List.set_cons_zero, List.set_cons_succ] at hF
        generalize uF 9 = x29 at h29 hF
        obtain rfl : x29 = (.bool false) := h29
        subst hF
        go_wp2_with (fail)
        exact ⟨rfl, rfl, (Below.refl _ _), rfl⟩
      · intro uF W hC' hU aF hF
        have hC : Below v5.heap.size v5 W := hC'
        clear hC'
        have h30 : (Det (.pointer (some ⟨w.heap.size, 0, none⟩))) (uF 10) W := hU.1
        have h29 : (Det (.bool false)) (uF 9) W := hU.2.1
        clear hU
        simp only [puts, Act.put, List.setIfInBounds_toArray, List.set_cons_zero, List.set_cons_succ] at hF
        generalize uF 10 = x30 at h30 hF
        generalize uF 9 = x29 at h29 hF
        obtain rfl : x30 = (.pointer (some ⟨w.heap.size, 0, none⟩)) := h30
        obtain rfl : x29 = (.bool false) := h29
        subst hF
        obtain ⟨e0, e1, e2, e3, e4, e5⟩ := cells6 (X5.below hC X5.lt)
        go_wp2_with (fail)
        exact ⟨rfl, rfl, (Below.refl _ _), rfl⟩
      · intro uF W hC' hU aF hF
        have hC : Below v5.heap.size v5 W := hC'
        clear hC'
        have h29 : (Det (.bool false)) (uF 9) W := hU.1
        clear hU
        simp only [puts, Act.put, List.setIfInBounds_toArray, List.set_cons_zero, List.set_cons_succ] at hF
        generalize uF 9 = x29 at h29 hF
        obtain rfl : x29 = (.bool false) := h29
        subst hF
        go_wp2_with (fail)
        exact ⟨rfl, rfl, (Below.refl _ _), rfl⟩
      · intro uF W hC' hU aF hF
        have hC : Below v5.heap.size v5 W := hC'
        clear hC'
        have h32 : (Det (.pointer (some ⟨w.heap.size, 1, none⟩))) (uF 12) W := hU.1
        have h29 : (Det (.bool false)) (uF 9) W := hU.2.1
        clear hU
        simp only [puts, Act.put, List.setIfInBounds_toArray, List.set_cons_zero, List.set_cons_succ] at hF
        generalize uF 12 = x32 at h32 hF
        generalize uF 9 = x29 at h29 hF
        obtain rfl : x32 = (.pointer (some ⟨w.heap.size, 1, none⟩)) := h32
        obtain rfl : x29 = (.bool false) := h29
        subst hF
        obtain ⟨e0, e1, e2, e3, e4, e5⟩ := cells6 (X5.below hC X5.lt)
        go_wp2_with (fail)
        exact ⟨rfl, rfl, (Below.refl _ _), rfl⟩
      · intro uF W hC' hU aF hF
        have hC : Below v5.heap.size v5 W := hC'
        clear hC'
        have h29 : (Det (.bool false)) (uF 9) W := hU.1
        clear hU
        simp only [puts, Act.put, List.setIfInBounds_toArray, List.set_cons_zero, List.set_cons_succ] at hF
        generalize uF 9 = x29 at h29 hF
        obtain rfl : x29 = (.bool false) := h29
        subst hF
        go_wp2_with (fail)
        exact ⟨rfl, rfl, (Below.refl _ _), rfl⟩
      · intro uF W hC' hU aF hF
        have hC : Below v5.heap.size v5 W := hC'
        clear hC'
        have h34 : (Det (.pointer (some ⟨w.heap.size, 2, none⟩))) (uF 14) W := hU.1
        have h29 : (Det (.bool false)) (uF 9) W := hU.2.1
        clear hU
        simp only [puts, Act.put, List.setIfInBounds_toArray, List.set_cons_zero, List.set_cons_succ] at hF
        generalize uF 14 = x34 at h34 hF
        generalize uF 9 = x29 at h29 hF
        obtain rfl : x34 = (.pointer (some ⟨w.heap.size, 2, none⟩)) := h34
        obtain rfl : x29 = (.bool false) := h29
        subst hF
        obtain ⟨e0, e1, e2, e3, e4, e5⟩ := cells6 (X5.below hC X5.lt)
        go_wp2_with (fail)
        exact ⟨rfl, rfl, (Below.refl _ _), rfl⟩
      · intro uF W hC' hU aF hF
        have hC : Below v5.heap.size v5 W := hC'
        clear hC'
        have h29 : (Det (.bool false)) (uF 9) W := hU.1
        clear hU
        simp only [puts, Act.put, List.setIfInBounds_toArray, List.set_cons_zero, List.set_cons_succ] at hF
        generalize uF 9 = x29 at h29 hF
        obtain rfl : x29 = (.bool false) := h29
        subst hF
        go_wp2_with (fail)
        exact ⟨rfl, rfl, (Below.refl _ _), rfl⟩
      · intro uF W hC' hU aF hF
        have hC : Below v5.heap.size v5 W := hC'
        clear hC'
        have h31 : (Det (.int .i64 a0)) (uF 11) W := hU.1
        have h33 : (Det (.slice A1 n1 c1)) (uF 13) W := hU.2.1
        have h35 : (Det (.slice A2 n2 c2)) (uF 15) W := hU.2.2.1
        have h36 : (Det (.slice (some ⟨v2.heap.size, 0, none⟩) 31 32)) (uF 16) W := hU.2.2.2.1
        have h29 : (Det (.bool false)) (uF 9) W := hU.2.2.2.2.1
        clear hU
        simp only [puts, Act.put, List.setIfInBounds_toArray, List.set_cons_zero, List.set_cons_succ] at hF
        generalize uF 11 = x31 at h31 hF
        generalize uF 13 = x33 at h33 hF
        generalize uF 15 = x35 at h35 hF
        generalize uF 16 = x36 at h36 hF
        generalize uF 9 = x29 at h29 hF
        obtain rfl : x31 = (.int .i64 a0) := h31
        obtain rfl : x33 = (.slice A1 n1 c1) := h33
        obtain rfl : x35 = (.slice A2 n2 c2) := h35
        obtain rfl : x36 = (.slice (some ⟨v2.heap.size, 0, none⟩) 31 32) := h36
        obtain rfl : x29 = (.bool false) := h29
        subst hF
        go_wp2_with ((go_at_call 39; refine (right_c a0 ((k1.below (hC.mono hz5)).more (Nat.le_trans hz5 hC.size)) ((k2.below (hC.mono hz5)).more (Nat.le_trans hz5 hC.size)) (SlB.trim (sum_sl (hb5.below hC hb5.lt) hla) (k := 31) (by omega)) (Nat.le_refl _) (by omega) (by omega) false (take_ne hla)).mono ?_; rintro e W1 ⟨rfl, hb⟩))
        exact ⟨rfl, rfl, hb, rfl⟩
      · intro uF W hC' hU aF hF
        have hC : Below v5.heap.size v5 W := hC'
        clear hC'
        have h29 : (Det (.bool false)) (uF 9) W := hU.1
        have h37 : (Det (.bool false)) (uF 17) W := hU.2.1
        clear hU
        simp only [puts, Act.put, List.setIfInBounds_toArray, List.set_cons_zero, List.set_cons_succ] at hF
        generalize uF 9 = x29 at h29 hF
        generalize uF 17 = x37 at h37 hF
        obtain rfl : x29 = (.bool false) := h29
        obtain rfl : x37 = (.bool false) := h37
        subst hF
        go_wp2_with (fail)
        exact ⟨rfl, rfl, (Below.refl _ _), rfl⟩
    intro uF v6 hC' hU aF hF
    have hCv6 : Below v5.heap.size v5 v6 := hC'
    clear hC'
    have h38 : (Det (.bool false)) (uF 18) v6 := hU.2.2.2.2.2.2.2.2.2.2.2.2.2.2.2.2.2.2.1
    clear hU
    simp only [puts, Act.put, List.setIfInBounds_toArray, List.set_cons_zero, List.set_cons_succ] at hF
    generalize uF 0 = x20 at hF
    generalize uF 1 = x21 at hF
    generalize uF 2 = x22 at hF
    generalize uF 3 = x23 at hF
    generalize uF 4 = x24 at hF
    generalize uF 5 = x25 at hF
    generalize uF 6 = x26 at hF
    generalize uF 7 = x27 at hF
    generalize uF 8 = x28 at hF
    generalize uF 9 = x29 at hF
    generalize uF 10 = x30 at hF
    generalize uF 11 = x31 at hF
    generalize uF 12 = x32 at hF
    generalize uF 13 = x33 at hF
    generalize uF 14 = x34 at hF
    generalize uF 15 = x35 at hF
    generalize uF 16 = x36 at hF
    generalize uF 17 = x37 at hF
    generalize uF 18 = x38 at h38 hF
    obtain rfl : x38 = (.bool false) := h38
    subst hF
    have X6 := X5.below hCv6 X5.lt
    have b6 := hb5.below hCv6 hb5.lt
    have hw6 := hw5.trans (hCv6.mono hz5)
    have hz6 := hw6.size
    obtain ⟨e0, e1, e2, e3, e4, e5⟩ := cells6 X6
    cases own with
    | false =>
      have k61 := W1.out.below hw6
      have k62 := W2.out.below hw6
      have k63 := W3.out.below hw6
      clear hbi
      obtain ⟨r, hr⟩ : ∃ r, (ansOf a0 bs1 bs2 == bs3) = r := ⟨_, rfl⟩
      have HR := Lib.hid hr
      clear hr
      go_wp2_with fail
      refine wp_region_rel (fun W W' => Below W.heap.size W W') (fun W => Below v6.heap.size v6 W)
        [Det (.pointer (some ⟨w.heap.size, 0, none⟩)), Det (.int .i64 a0), Det (.pointer (some ⟨w.heap.size, 1, none⟩)), Det (.slice A1 n1 c1), Det (.pointer (some ⟨w.heap.size, 2, none⟩)), Det (.slice A2 n2 c2), Det (.pointer (some ⟨w.heap.size, 3, none⟩)), Det (.slice A3 n3 c3), Det (.bool r), Det (.slice (some ⟨v2.heap.size, 0, none⟩) 32 32), Det (.pointer (some ⟨w.heap.size, 3, none⟩)), Det (.slice A3 n3 c3), Det (.bool r), Det (.bool true), Det (.bool true)]
        [[], [(0, some 65)], [], [(2, some 67)], [], [(4, some 69)], [], [(6, some 71)], [(1, some 66), (3, some 68), (5, some 70), (7, some 72)], [], [], [(10, some 75)], [(9, some 74), (11, some 76)], [(8, some 73), (12, some 77)], [(13, some 78)]]
        [[], [0], [], [2], [], [4], [], [6], [0, 1, 2, 3, 4, 5, 6, 7], [], [], [10], [0, 1, 2, 3, 4, 5, 6, 7, 8, 9, 10, 11], [0, 1, 2, 3, 4, 5, 6, 7, 8, 9, 10, 11, 12], [0, 1, 2, 3, 4, 5, 6, 7, 8, 9, 10, 11, 12, 13]]
        [(0, some 65), (1, some 66), (2, some 67), (3, some 68), (4, some 69), (5, some 70), (6, some 71), (7, some 72), (8, some 73), (9, some 74), (10, some 75), (11, some 76), (12, some 77), (13, some 78), (14, some 2)] (by kernel_rfl) (by kernel_rfl) (fun W W' h1 h2 => h1.trans (h2.mono h1.size)) ((Below.refl _ _).drew) ?_ ?_ ?_
      · exact (AllMono.cons Det.later (AllMono.cons Det.later (AllMono.cons Det.later (AllMono.cons Det.later (AllMono.cons Det.later (AllMono.cons Det.later (AllMono.cons Det.later (AllMono.cons Det.later (AllMono.cons Det.later (AllMono.cons Det.later (AllMono.cons Det.later (AllMono.cons Det.later (AllMono.cons Det.later (AllMono.cons Det.later (AllMono.cons Det.later AllMono.nil)))))))))))))))
      · refine AllOb.cons ?_ (AllOb.cons ?_ (AllOb.cons ?_ (AllOb.cons ?_ (AllOb.cons ?_ (AllOb.cons ?_ (AllOb.cons ?_ (AllOb.cons ?_ (AllOb.cons ?_ (AllOb.cons ?_ (AllOb.cons ?_ (AllOb.cons ?_ (AllOb.cons ?_ (AllOb.cons ?_ (AllOb.cons ?_ (AllOb.nil)))))))))))))))
        · intro uF W hC' hU aF hF
          have hC : Below v6.heap.size v6 W := hC'
          clear hC'
          simp only [puts] at hF
          subst hF
          go_wp2_with (fail)
          exact ⟨rfl, rfl, (Below.refl _ _), rfl⟩
        · intro uF W hC' hU aF hF
          have hC : Below v6.heap.size v6 W := hC'
          clear hC'
          have h65 : (Det (.pointer (some ⟨w.heap.size, 0, none⟩))) (uF 0) W := hU.1
          clear hU
          simp only [puts, Act.put, List.setIfInBounds_toArray, List.set_cons_zero, List.set_cons_succ] at hF
          generalize uF 0 = x65 at h65 hF
          obtain rfl : x65 = (.pointer (some ⟨w.heap.size, 0, none⟩)) := h65
          subst hF
          obtain ⟨e0, e1, e2, e3, e4, e5⟩ := cells6 (X6.below hC X6.lt)
          go_wp2_with (fail)
          exact ⟨rfl, rfl, (Below.refl _ _), rfl⟩
        · intro uF W hC' hU aF hF
          have hC : Below v6.heap.size v6 W := hC'
          clear hC'
          simp only [puts] at hF
          subst hF
          go_wp2_with (fail)
          exact ⟨rfl, rfl, (Below.refl _ _), rfl⟩
        · intro uF W hC' hU aF hF
          have hC : Below v6.heap.size v6 W := hC'
          clear hC'
          have h67 : (Det (.pointer (some ⟨w.heap.size, 1, none⟩))) (uF 2) W := hU.1
          clear hU
          simp only [puts, Act.put, List.setIfInBounds_toArray, List.set_cons_zero, List.set_cons_succ] at hF
          generalize uF 2 = x67 at h67 hF
          obtain rfl : x67 = (.pointer (some ⟨w.heap.size, 1, none⟩)) := h67
          subst hF
          obtain ⟨e0, e1, e2, e3, e4, e5⟩ := cells6 (X6.below hC X6.lt)
          go_wp2_with (fail)
          exact ⟨rfl, rfl, (Below.refl _ _), rfl⟩
        · intro uF W hC' hU aF hF
          have hC : Below v6.heap.size v6 W := hC'
          clear hC'
          simp only [puts] at hF
          subst hF
          go_wp2_with (fail)
          exact ⟨rfl, rfl, (Below.refl _ _), rfl⟩
        · intro uF W hC' hU aF hF
          have hC : Below v6.heap.size v6 W := hC'
          clear hC'
          have h69 : (Det (.pointer (some ⟨w.heap.size, 2, none⟩))) (uF 4) W := hU.1
          clear hU
          simp only [puts, Act.put, List.setIfInBounds_toArray, List.set_cons_zero, List.set_cons_succ] at hF
          generalize uF 4 = x69 at h69 hF
          obtain rfl : x69 = (.pointer (some ⟨w.heap.size, 2, none⟩)) := h69
          subst hF
          obtain ⟨e0, e1, e2, e3, e4, e5⟩ := cells6 (X6.below hC X6.lt)
          go_wp2_with (fail)
          exact ⟨rfl, rfl, (Below.refl _ _), rfl⟩
        · intro uF W hC' hU aF hF
          have hC : Below v6.heap.size v6 W := hC'
          clear hC'
          simp only [puts] at hF
          subst hF
          go_wp2_with (fail)
          exact ⟨rfl, rfl, (Below.refl _ _), rfl⟩
        · intro uF W hC' hU aF hF
          have hC : Below v6.heap.size v6 W := hC'
          clear hC'
          have h71 : (Det (.pointer (some ⟨w.heap.size, 3, none⟩))) (uF 6) W := hU.1
          clear hU
          simp only [puts, Act.put, List.setIfInBounds_toArray, List.set_cons_zero, List.set_cons_succ] at hF
          generalize uF 6 = x71 at h71 hF
          obtain rfl : x71 = (.pointer (some ⟨w.heap.size, 3, none⟩)) := h71
          subst hF
          obtain ⟨e0, e1, e2, e3, e4, e5⟩ := cells6 (X6.below hC X6.lt)
          go_wp2_with (fail)
          exact ⟨rfl, rfl, (Below.refl _ _), rfl⟩
        · intro uF W hC' hU aF hF
          have hC : Below v6.heap.size v6 W := hC'
          clear hC'
          have h66 : (Det (.int .i64 a0)) (uF 1) W := hU.1
          have h68 : (Det (.slice A1 n1 c1)) (uF 3) W := hU.2.1
          have h70 : (Det (.slice A2 n2 c2)) (uF 5) W := hU.2.2.1
          have h72 : (Det (.slice A3 n3 c3)) (uF 7) W := hU.2.2.2.1
          clear hU
          simp only [puts, Act.put, List.setIfInBounds_toArray, List.set_cons_zero, List.set_cons_succ] at hF
          generalize uF 1 = x66 at h66 hF
          generalize uF 3 = x68 at h68 hF
          generalize uF 5 = x70 at h70 hF
          generalize uF 7 = x72 at h72 hF
          obtain rfl : x66 = (.int .i64 a0) := h66
          obtain rfl : x68 = (.slice A1 n1 c1) := h68
          obtain rfl : x70 = (.slice A2 n2 c2) := h70
          obtain rfl : x72 = (.slice A3 n3 c3) := h72
          subst hF
          go_wp2_with ((go_at_call 39; refine (right_c a0 ((k61.below (hC.mono hz6)).more (Nat.le_trans hz6 hC.size)) ((k62.below (hC.mono hz6)).more (Nat.le_trans hz6 hC.size)) ((k63.below (hC.mono hz6)).more (Nat.le_trans hz6 hC.size)) (Nat.le_refl _) (by omega) (by omega) r HR.out).mono ?_; rintro e W1 ⟨rfl, hb⟩))
          exact ⟨rfl, rfl, hb, rfl⟩
        · intro uF W hC' hU aF hF
          have hC : Below v6.heap.size v6 W := hC'
          clear hC'
          simp only [puts] at hF
          subst hF
          go_wp2_with (fail)
          exact ⟨rfl, rfl, (Below.refl _ _), rfl⟩
        · intro uF W hC' hU aF hF
          have hC : Below v6.heap.size v6 W := hC'
          clear hC'
          simp only [puts] at hF
          subst hF
          go_wp2_with (fail)
          exact ⟨rfl, rfl, (Below.refl _ _), rfl⟩
        · intro uF W hC' hU aF hF
          have hC : Below v6.heap.size v6 W := hC'
          clear hC'
          have h75 : (Det (.pointer (some ⟨w.heap.size, 3, none⟩))) (uF 10) W := hU.1
          clear hU
          simp only [puts, Act.put, List.setIfInBounds_toArray, List.set_cons_zero, List.set_cons_succ] at hF
          generalize uF 10 = x75 at h75 hF
          obtain rfl : x75 = (.pointer (some ⟨w.heap.size, 3, none⟩)) := h75
          subst hF
          obtain ⟨e0, e1, e2, e3, e4, e5⟩ := cells6 (X6.below hC X6.lt)
          go_wp2_with (fail)
          exact ⟨rfl, rfl, (Below.refl _ _), rfl⟩
        · intro uF W hC' hU aF hF
          have hC : Below v6.heap.size v6 W := hC'
          clear hC'
          have h74 : (Det (.slice (some ⟨v2.heap.size, 0, none⟩) 32 32)) (uF 9) W := hU.1
          have h76 : (Det (.slice A3 n3 c3)) (uF 11) W := hU.2.1
          clear hU
          simp only [puts, Act.put, List.setIfInBounds_toArray, List.set_cons_zero, List.set_cons_succ] at hF
          generalize uF 9 = x74 at h74 hF
          generalize uF 11 = x76 at h76 hF
          obtain rfl : x74 = (.slice (some ⟨v2.heap.size, 0, none⟩) 32 32) := h74
          obtain rfl : x76 = (.slice A3 n3 c3) := h76
          subst hF
          go_wp2_with ((go_at_call 40; refine (same_c (sum_sl (b6.below hC b6.lt) hla) (k63.below (hC.mono hz6)) r HR.out).mono ?_; rintro e W1 ⟨rfl, rfl⟩))
          exact ⟨rfl, rfl, (Below.refl _ _), rfl⟩
        · intro uF W hC' hU aF hF
          have hC : Below v6.heap.size v6 W := hC'
          clear hC'
          have h73 : (Det (.bool r)) (uF 8) W := hU.1
          have h77 : (Det (.bool r)) (uF 12) W := hU.2.1
          clear hU
          simp only [puts, Act.put, List.setIfInBounds_toArray, List.set_cons_zero, List.set_cons_succ] at hF
          generalize uF 8 = x73 at h73 hF
          generalize uF 12 = x77 at h77 hF
          obtain rfl : x73 = (.bool r) := h73
          obtain rfl : x77 = (.bool r) := h77
          subst hF
          go_wp2_with (fail)
          exact ⟨rfl, rfl, (Below.refl _ _), rfl⟩
        · intro uF W hC' hU aF hF
          have hC : Below v6.heap.size v6 W := hC'
          clear hC'
          have h78 : (Det (.bool true)) (uF 13) W := hU.1
          clear hU
          simp only [puts, Act.put, List.setIfInBounds_toArray, List.set_cons_zero, List.set_cons_succ] at hF
          generalize uF 13 = x78 at h78 hF
          obtain rfl : x78 = (.bool true) := h78
          subst hF
          go_wp2_with (fail)
          exact ⟨rfl, rfl, (Below.refl _ _), rfl⟩
      intro uF v8 hC' hU aF hF
      have hCv8 : Below v6.heap.size v6 v8 := hC'
      clear hC'
      have h2 : (Det (.bool true)) (uF 14) v8 := hU.2.2.2.2.2.2.2.2.2.2.2.2.2.2.1
      clear hU
      simp only [puts, Act.put, List.setIfInBounds_toArray, List.set_cons_zero, List.set_cons_succ] at hF
      generalize uF 0 = x65 at hF
      generalize uF 1 = x66 at hF
      generalize uF 2 = x67 at hF
      generalize uF 3 = x68 at hF
      generalize uF 4 = x69 at hF
      generalize uF 5 = x70 at hF
      generalize uF 6 = x71 at hF
      generalize uF 7 = x72 at hF
      generalize uF 8 = x73 at hF
      generalize uF 9 = x74 at hF
      generalize uF 10 = x75 at hF
      generalize uF 11 = x76 at hF
      generalize uF 12 = x77 at hF
      generalize uF 13 = x78 at hF
      generalize uF 14 = x2 at h2 hF
      obtain rfl : x2 = (.bool true) := h2
      subst hF
      go_wp2_with fail
      go_ret
      exact ⟨rfl, hw6.trans (hCv8.mono hz6)⟩
    | true =>
      obtain ⟨u, hu⟩ : ∃ u : Nat, IntKind.u64.wrap bit = (u : Int) := ⟨(IntKind.u64.wrap bit).toNat, by rw [Int.toNat_of_nonneg (wrap_u64_nn _)]⟩
      obtain ⟨k, hk⟩ : ∃ k : Nat, k = u % 256 := ⟨_, rfl⟩
      obtain ⟨q, hq⟩ : ∃ q : Nat, q = k / 8 := ⟨_, rfl⟩
      obtain ⟨r, hr⟩ : ∃ r : Nat, r = k % 8 := ⟨_, rfl⟩
      have htm : ((u : Int)).tmod 256 = (k : Int) := by rw [Int.tmod_eq_emod_of_nonneg (by omega)]; omega
      have hmd : (u : Int) % 256 = (k : Int) := by omega
      have htd : ((k : Int)).tdiv 8 = (q : Int) := by rw [Int.tdiv_eq_ediv_of_nonneg (by omega)]; omega
      have hmd8 : (k : Int) / 8 = (q : Int) := by omega
      have htr : ((k : Int)).tmod 8 = (r : Int) := by rw [Int.tmod_eq_emod_of_nonneg (by omega)]; omega
      have hmr : (k : Int) % 8 = (r : Int) := by omega
      have hk1 : (k : Int) < 256 := by omega
      have hk0 : (0 : Int) ≤ (k : Int) := by omega
      have hq1 : (q : Int) < 32 := by omega
      have hq0 : (0 : Int) ≤ (q : Int) := by omega
      have hq' : q < (ansOf a0 bs1 bs2).length := by omega
      have hr1 : (r : Int) < 8 := by omega
      have hr0 : (0 : Int) ≤ (r : Int) := by omega
      obtain ⟨y, hy⟩ : ∃ y, y = (ansOf a0 bs1 bs2)[q] := ⟨_, rfl⟩
      have hcy : v6.cell? ⟨v2.heap.size, q, none⟩ = some (.int .u8 (y.toNat : Int)) := by
        rw [b6.cell, arr8_get, List.getElem?_eq_getElem hq', hy]; rfl
      have hfy : v6.frozen? ⟨v2.heap.size, q, none⟩ = false := b6.frozen q
      have HY := Lib.hid hy
      clear hk hq hr hy
      go_wp2_with fail
      obtain ⟨hbit, hm0⟩ := bit8 r (by omega)
      rw [hbit, xor8]
      obtain ⟨z, hz⟩ : ∃ z, z = y ^^^ UInt8.ofNat (2 ^ r) := ⟨_, rfl⟩
      have hzy : z ≠ (ansOf a0 bs1 bs2)[q] := by rw [hz, ← HY.out]; exact xor_ne hm0
      rw [← hz]
      have hne := set_ne hq' hzy
      have hls : ((ansOf a0 bs1 bs2).set q z).length = 32 := by rw [List.length_set, hla]
      obtain ⟨v7, hv7⟩ : ∃ v7, v7 = v6.setCell ⟨v2.heap.size, q, none⟩ (.int .u8 (z.toNat : Int)) := ⟨_, rfl⟩
      rw [← hv7]
      have b7 : Blk v7 v2.heap.size 40 (arr8 ((ansOf a0 bs1 bs2).set q z)) := by rw [hv7, ← arr8_set]; exact b6.set_ q _
      have X7 := X6.far (p := ⟨v2.heap.size, q, none⟩) (by show w.heap.size ≠ v2.heap.size; omega) (.int .u8 (z.toNat : Int))
      rw [← hv7] at X7
      have hw7 : Below w.heap.size w v7 := by rw [hv7]; exact hw6.setCell (by show w.heap.size ≤ v2.heap.size; omega) _
      have hz7 := hw7.size
      have k71 := W1.out.below hw7
      have k72 := W2.out.below hw7
      have HNE := Lib.hid hne
      clear hv7 hne hz hzy hbit hm0 hcy hfy hbi htm hmd htd hmd8 htr hmr hu b6 X6 e0 e1 e2 e3 e4 e5
      refine wp_region_rel (fun W W' => Below W.heap.size W W') (fun W => Below v7.heap.size v7 W)
        [Det (.pointer (some ⟨w.heap.size, 0, none⟩)), Det (.int .i64 a0), Det (.pointer (some ⟨w.heap.size, 1, none⟩)), Det (.slice A1 n1 c1), Det (.pointer (some ⟨w.heap.size, 2, none⟩)), Det (.slice A2 n2 c2), Det (.slice (some ⟨v2.heap.size, 0, none⟩) 32 32), Det (.bool false), Det (.bool true), Det (.bool true)]
        [[], [(0, some 56)], [], [(2, some 58)], [], [(4, some 60)], [], [(1, some 57), (3, some 59), (5, some 61), (6, some 62)], [(7, some 63)], [(8, some 64)]]
        [[], [0], [], [2], [], [4], [], [0, 1, 2, 3, 4, 5, 6], [0, 1, 2, 3, 4, 5, 6, 7], [0, 1, 2, 3, 4, 5, 6, 7, 8]]
        [(0, some 56), (1, some 57), (2, some 58), (3, some 59), (4, some 60), (5, some 61), (6, some 62), (7, some 63), (8, some 64), (9, some 2)] (by kernel_rfl) (by kernel_rfl) (fun W W' h1 h2 => h1.trans (h2.mono h1.size)) ((Below.refl _ _).drew) ?_ ?_ ?_
      · exact (AllMono.cons Det.later (AllMono.cons Det.later (AllMono.cons Det.later (AllMono.cons Det.later (AllMono.cons Det.later (AllMono.cons Det.later (AllMono.cons Det.later (AllMono.cons Det.later (AllMono.cons Det.later (AllMono.cons Det.later AllMono.nil))))))))))
      · refine AllOb.cons ?_ (AllOb.cons ?_ (AllOb.cons ?_ (AllOb.cons ?_ (AllOb.cons ?_ (AllOb.cons ?_ (AllOb.cons ?_ (AllOb.cons ?_ (AllOb.cons ?_ (AllOb.cons ?_ (AllOb.nil))))))))))
        · intro uF W hC' hU aF hF
          have hC : Below v7.heap.size v7 W := hC'
          clear hC'
          simp only [puts] at hF
          subst hF
          go_wp2_with (fail)
          exact ⟨rfl, rfl, (Below.refl _ _), rfl⟩
        · intro uF W hC' hU aF hF
          have hC : Below v7.heap.size v7 W := hC'
          clear hC'
          have h56 : (Det (.pointer (some ⟨w.heap.size, 0, none⟩))) (uF 0) W := hU.1
          clear hU
          simp only [puts, Act.put, List.setIfInBounds_toArray, List.set_cons_zero, List.set_cons_succ] at hF
          generalize uF 0 = x56 at h56 hF
          obtain rfl : x56 = (.pointer (some ⟨w.heap.size, 0, none⟩)) := h56
          subst hF
          obtain ⟨e0, e1, e2, e3, e4, e5⟩ := cells6 (X7.below hC X7.lt)
          go_wp2_with (fail)
          exact ⟨rfl, rfl, (Below.refl _ _), rfl⟩
        · intro uF W hC' hU aF hF
          have hC : Below v7.heap.size v7 W := hC'
          clear hC'
          simp only [puts] at hF
          subst hF
          go_wp2_with (fail)
          exact ⟨rfl, rfl, (Below.refl _ _), rfl⟩
        · intro uF W hC' hU aF hF
          have hC : Below v7.heap.size v7 W := hC'
          clear hC'
          have h58 : (Det (.pointer (some ⟨w.heap.size, 1, none⟩))) (uF 2) W := hU.1
          clear hU
          simp only [puts, Act.put, List.setIfInBounds_toArray, List.set_cons_zero, List.set_cons_succ] at hF
          generalize uF 2 = x58 at h58 hF
          obtain rfl : x58 = (.pointer (some ⟨w.heap.size, 1, none⟩)) := h58
          subst hF
          obtain ⟨e0, e1, e2, e3, e4, e5⟩ := cells6 (X7.below hC X7.lt)
          go_wp2_with (fail)
          exact ⟨rfl, rfl, (Below.refl _ _), rfl⟩
        · intro uF W hC' hU aF hF
          have hC : Below v7.heap.size v7 W := hC'
          clear hC'
          simp only [puts] at hF
          subst hF
          go_wp2_with (fail)
          exact ⟨rfl, rfl, (Below.refl _ _), rfl⟩
        · intro uF W hC' hU aF hF
          have hC : Below v7.heap.size v7 W := hC'
          clear hC'
          have h60 : (Det (.pointer (some ⟨w.heap.size, 2, none⟩))) (uF 4) W := hU.1
          clear hU
          simp only [puts, Act.put, List.setIfInBounds_toArray, List.set_cons_zero, List.set_cons_succ] at hF
          generalize uF 4 = x60 at h60 hF
          obtain rfl : x60 = (.pointer (some ⟨w.heap.size, 2, none⟩)) := h60
          subst hF
          obtain ⟨e0, e1, e2, e3, e4, e5⟩ := cells6 (X7.below hC X7.lt)
          go_wp2_with (fail)
          exact ⟨rfl, rfl, (Below.refl _ _), rfl⟩
        · intro uF W hC' hU aF hF
          have hC : Below v7.heap.size v7 W := hC'
          clear hC'
          simp only [puts] at hF
          subst hF
          go_wp2_with (fail)
          exact ⟨rfl, rfl, (Below.refl _ _), rfl⟩
        · intro uF W hC' hU aF hF
          have hC : Below v7.heap.size v7 W := hC'
          clear hC'
          have h57 : (Det (.int .i64 a0)) (uF 1) W := hU.1
          have h59 : (Det (.slice A1 n1 c1)) (uF 3) W := hU.2.1
          have h61 : (Det (.slice A2 n2 c2)) (uF 5) W := hU.2.2.1
          have h62 : (Det (.slice (some ⟨v2.heap.size, 0, none⟩) 32 32)) (uF 6) W := hU.2.2.2.1
          clear hU
          simp only [puts, Act.put, List.setIfInBounds_toArray, List.set_cons_zero, List.set_cons_succ] at hF
          generalize uF 1 = x57 at h57 hF
          generalize uF 3 = x59 at h59 hF
          generalize uF 5 = x61 at h61 hF
          generalize uF 6 = x62 at h62 hF
          obtain rfl : x57 = (.int .i64 a0) := h57
          obtain rfl : x59 = (.slice A1 n1 c1) := h59
          obtain rfl : x61 = (.slice A2 n2 c2) := h61
          obtain rfl : x62 = (.slice (some ⟨v2.heap.size, 0, none⟩) 32 32) := h62
          subst hF
          go_wp2_with ((go_at_call 39; refine (right_c a0 ((k71.below (hC.mono hz7)).more (Nat.le_trans hz7 hC.size)) ((k72.below (hC.mono hz7)).more (Nat.le_trans hz7 hC.size)) (sum_sl (b7.below hC b7.lt) hls) (Nat.le_refl _) (by omega) (by omega) false (by rw [beq_eq_false_iff_ne]; exact HNE.out)).mono ?_; rintro e W1 ⟨rfl, hb⟩))
          exact ⟨rfl, rfl, hb, rfl⟩
        · intro uF W hC' hU aF hF
          have hC : Below v7.heap.size v7 W := hC'
          clear hC'
          have h63 : (Det (.bool false)) (uF 7) W := hU.1
          clear hU
          simp only [puts, Act.put, List.setIfInBounds_toArray, List.set_cons_zero, List.set_cons_succ] at hF
          generalize uF 7 = x63 at h63 hF
          obtain rfl : x63 = (.bool false) := h63
          subst hF
          go_wp2_with (fail)
          exact ⟨rfl, rfl, (Below.refl _ _), rfl⟩
        · intro uF W hC' hU aF hF
          have hC : Below v7.heap.size v7 W := hC'
          clear hC'
          have h64 : (Det (.bool true)) (uF 8) W := hU.1
          clear hU
          simp only [puts, Act.put, List.setIfInBounds_toArray, List.set_cons_zero, List.set_cons_succ] at hF
          generalize uF 8 = x64 at h64 hF
          obtain rfl : x64 = (.bool true) := h64
          subst hF
          go_wp2_with (fail)
          exact ⟨rfl, rfl, (Below.refl _ _), rfl⟩
      intro uF v8 hC' hU aF hF
      have hCv8 : Below v7.heap.size v7 v8 := hC'
      clear hC'
      have h2 : (Det (.bool true)) (uF 9) v8 := hU.2.2.2.2.2.2.2.2.2.1
      clear hU
      simp only [puts, Act.put, List.setIfInBounds_toArray, List.set_cons_zero, List.set_cons_succ] at hF
      generalize uF 0 = x56 at hF
      generalize uF 1 = x57 at hF
      generalize uF 2 = x58 at hF
      generalize uF 3 = x59 at hF
      generalize uF 4 = x60 at hF
      generalize uF 5 = x61 at hF
      generalize uF 6 = x62 at hF
      generalize uF 7 = x63 at hF
      generalize uF 8 = x64 at hF
      generalize uF 9 = x2 at h2 hF
      obtain rfl : x2 = (.bool true) := h2
      subst hF
      go_wp2_with fail
      go_ret
      exact ⟨rfl, hw7.trans (hCv8.mono hz7)⟩
end Go.Proofs.Ytbjiokjmidipaaa.chapRights

