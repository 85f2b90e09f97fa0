/-
  login: a greeting that is refused; what a session does with any frame (printed by wip/gen_login4.py).
-/
import Derived.Test.YtiadfbcdopfibaaLoginC
namespace Go.Proofs.Ytiadfbcdopfibaa
open Go.RowKit
set_option linter.unusedVariables false
set_option linter.unusedSimpArgs false
set_option maxRecDepth 100000

set_option maxHeartbeats 4000000 in
theorem hello_no1 {w : World} {base gs : Nat} {init : Int} {th ou ch ds dr : List UInt8} {st gr nx : Int} (h : Se w base gs init th ou st gr ch nx) (hdr : dr.length = 32) (k n x : Int) (A : Option Addr) (m c : Nat) (hn : n ≠ init) :
    Calls Try.prog 31 #[.pointer (some ⟨gs, 0, none⟩), .agg #[.int .i64 k, .int .i64 n, .int .i64 x, .slice A m c], .agg (arr8 dr)] w fun e w' => (∃ g, e = .returned (.agg #[.slice (some ⟨g, 0, none⟩) 1 1, .bool false, .bool false]) ∧ w.heap.size ≤ g ∧ Blk w' g 36 #[.int .i64 7, .int .i64 0, .int .i64 12, .slice none 0 0]) ∧ Se w' base gs init th ou st gr ch nx ∧ Below w.heap.size w w' := by
  have hii : (n != init) = true := by simpa using hn
  clear hn
  obtain ⟨v, hv⟩ : ∃ v, v = ((w.alloc (.cells #[.int .i64 k, .int .i64 n, .int .i64 x, .slice A m c] 36)).alloc (.cells (arr8 dr) 34)).alloc (.cells #[.slice none 0 0, .bool false, .bool false] 42) := ⟨_, rfl⟩
  obtain ⟨g5, hg5⟩ : ∃ g, g = w.heap.size + 1 := ⟨_, rfl⟩
  obtain ⟨g6, hg6⟩ : ∃ g, g = w.heap.size + 1 + 1 := ⟨_, rfl⟩
  have b1 : Blk v w.heap.size 36 #[.int .i64 k, .int .i64 n, .int .i64 x, .slice A m c] := by rw [hv]; exact ((Blk.new _ _ _).alloc _).alloc _
  have b5 : Blk v g5 34 (arr8 dr) := by
    have := (Blk.new (w.alloc (.cells #[.int .i64 k, .int .i64 n, .int .i64 x, .slice A m c] 36)) 34 (arr8 dr)).alloc (.cells #[.slice none 0 0, .bool false, .bool false] 42)
    rw [World.size_alloc] at this
    rw [hv, hg5]; exact this
  have b6 : Blk v g6 42 #[.slice none 0 0, .bool false, .bool false] := by
    have := Blk.new ((w.alloc (.cells #[.int .i64 k, .int .i64 n, .int .i64 x, .slice A m c] 36)).alloc (.cells (arr8 dr) 34)) 42 #[.slice none 0 0, .bool false, .bool false]
    rw [World.size_alloc, World.size_alloc] at this
    rw [hv, hg6]; exact this
  have hbv : Below w.heap.size w v := by rw [hv]; exact (((Below.refl _ _).alloc (Nat.le_refl _) _).alloc (by simp) _).alloc (by simp only [World.size_alloc]; omega) _
  have hz := hbv.size
  have hzv := b6.lt
  have hgs := h.lt
  have hG : w.heap.size < g5 ∧ g5 < g6 := by omega
  have H := Lib.hid (h.below hbv)
  have HV := Lib.hid hv
  have HG5 := Lib.hid hg5
  have HG6 := Lib.hid hg6
  have HB1 := Lib.hid b1
  have HB5 := Lib.hid b5
  have HB6 := Lib.hid b6
  have HDR := Lib.hid hdr
  clear hv b1 b5 b6 hg5 hg6 hdr
  go_enter Try.func31, Try.ntmps31
  go_wp2_with ((with_reducible show wpList _ _ _ (Oper.mk (some 6) (Op.alloc _) _ _ _ _ :: _) _ _); refine wpList_alloc_agg rfl 42 rfl #[.slice none 0 0, .bool false, .bool false] zeroSt ?_; simp only [World.size_alloc]; rw [← HV.out, ← HG6.out, ← HG5.out])
  refine wp_region_rel (fun W W' => Below W.heap.size W W') (fun W => Below v.heap.size v W)
    [Det (.pointer (some ⟨w.heap.size, 1, none⟩)), Det (.int .i64 n), Det (.pointer (some ⟨gs, 0, none⟩)), Det (.pointer (some ⟨gs, 0, none⟩)), Det (.pointer (some ⟨gs, 0, none⟩)), Det (.pointer (some ⟨gs, 1, none⟩)), Det (.int .i64 init), Det (.bool true), Det (.bool true), Any, Any, Any, Any, Det (.bool true), Det (.bool true), Any, Any, Any, Any, Det (.bool true)]
    [[], [(0, some 9)], [], [(2, some 11)], [(3, some 12)], [(4, some 13)], [(5, some 14)], [(1, some 10), (6, some 15)], [(7, some 16)], [(8, some 17)], [(9, some 18), (8, some 17)], [(10, some 19), (8, some 17)], [(11, some 20), (8, some 17)], [(8, some 17), (12, some 21)], [(13, some 22)], [(14, some 23)], [(15, some 24), (14, some 23)], [(16, some 25), (14, some 23)], [(17, some 26), (14, some 23)], [(14, some 23), (18, some 27)]]
    [[], [0], [], [2], [2, 3], [2, 3, 4], [2, 3, 4, 5], [0, 1, 2, 3, 4, 5, 6], [0, 1, 2, 3, 4, 5, 6, 7], [0, 1, 2, 3, 4, 5, 6, 7, 8], [0, 1, 2, 3, 4, 5, 6, 7, 8, 9], [0, 1, 2, 3, 4, 5, 6, 7, 8, 9, 10], [0, 1, 2, 3, 4, 5, 6, 7, 8, 9, 10, 11], [0, 1, 2, 3, 4, 5, 6, 7, 8, 9, 10, 11, 12], [0, 1, 2, 3, 4, 5, 6, 7, 8, 9, 10, 11, 12, 13], [0, 1, 2, 3, 4, 5, 6, 7, 8, 9, 10, 11, 12, 13, 14], [0, 1, 2, 3, 4, 5, 6, 7, 8, 9, 10, 11, 12, 13, 14, 15], [0, 1, 2, 3, 4, 5, 6, 7, 8, 9, 10, 11, 12, 13, 14, 15, 16], [0, 1, 2, 3, 4, 5, 6, 7, 8, 9, 10, 11, 12, 13, 14, 15, 16, 17], [0, 1, 2, 3, 4, 5, 6, 7, 8, 9, 10, 11, 12, 13, 14, 15, 16, 17, 18]]
    [(0, some 9), (1, some 10), (2, some 11), (3, some 12), (4, some 13), (5, some 14), (6, some 15), (7, some 16), (8, some 17), (9, some 18), (10, some 19), (11, some 20), (12, some 21), (13, some 22), (14, some 23), (15, some 24), (16, some 25), (17, some 26), (18, some 27), (19, some 28)] (by kernel_rfl) (by kernel_rfl) (fun W W' h1 h2 => h1.trans (h2.mono h1.size)) ((Below.refl _ _).drew) ?_ ?_ ?_
  · exact (AllMono.cons Det.later (AllMono.cons Det.later (AllMono.cons Det.later (AllMono.cons Det.later (AllMono.cons Det.later (AllMono.cons Det.later (AllMono.cons Det.later (AllMono.cons Det.later (AllMono.cons Det.later (AllMono.cons Any.later (AllMono.cons Any.later (AllMono.cons Any.later (AllMono.cons Any.later (AllMono.cons Det.later (AllMono.cons Det.later (AllMono.cons Any.later (AllMono.cons Any.later (AllMono.cons Any.later (AllMono.cons Any.later (AllMono.cons Det.later AllMono.nil))))))))))))))))))))
  · refine AllOb.cons ?_ (AllOb.cons ?_ (AllOb.cons ?_ (AllOb.cons ?_ (AllOb.cons ?_ (AllOb.cons ?_ (AllOb.cons ?_ (AllOb.cons ?_ (AllOb.cons ?_ (AllOb.cons ?_ (AllOb.cons ?_ (AllOb.cons ?_ (AllOb.cons ?_ (AllOb.cons ?_ (AllOb.cons ?_ (AllOb.cons ?_ (AllOb.cons ?_ (AllOb.cons ?_ (AllOb.cons ?_ (AllOb.cons ?_ (AllOb.nil))))))))))))))))))))
    · intro uF W hC' hU aF hF
      have hC : Below v.heap.size v W := hC'
      clear hC'
      simp only [puts] at hF
      subst hF
      go_wp2_with (fail)
      exact ⟨rfl, rfl, (Below.refl _ _), rfl⟩
    · intro uF W hC' hU aF hF
      have hC : Below v.heap.size v W := hC'
      clear hC'
      have h9 : (Det (.pointer (some ⟨w.heap.size, 1, none⟩))) (uF 0) W := hU.1
      clear hU
      simp only [puts, Act.put, List.setIfInBounds_toArray, List.set_cons_zero, List.set_cons_succ] at hF
      generalize uF 0 = x9 at h9 hF
      obtain rfl : x9 = (.pointer (some ⟨w.heap.size, 1, none⟩)) := h9
      subst hF
      have d1 : W.cell? ⟨w.heap.size, 1, none⟩ = some (.int .i64 n) := by rw [(HB1.out.below hC HB1.out.lt).cell]; rfl
      go_wp2_with (fail)
      exact ⟨rfl, rfl, (Below.refl _ _), rfl⟩
    · intro uF W hC' hU aF hF
      have hC : Below v.heap.size v W := hC'
      clear hC'
      simp only [puts] at hF
      subst hF
      go_wp2_with (fail)
      exact ⟨rfl, rfl, (Below.refl _ _), rfl⟩
    · intro uF W hC' hU aF hF
      have hC : Below v.heap.size v W := hC'
      clear hC'
      have h11 : (Det (.pointer (some ⟨gs, 0, none⟩))) (uF 2) W := hU.1
      clear hU
      simp only [puts, Act.put, List.setIfInBounds_toArray, List.set_cons_zero, List.set_cons_succ] at hF
      generalize uF 2 = x11 at h11 hF
      obtain rfl : x11 = (.pointer (some ⟨gs, 0, none⟩)) := h11
      subst hF
      go_wp2_with (fail)
      exact ⟨rfl, rfl, (Below.refl _ _), rfl⟩
    · intro uF W hC' hU aF hF
      have hC : Below v.heap.size v W := hC'
      clear hC'
      have h12 : (Det (.pointer (some ⟨gs, 0, none⟩))) (uF 3) W := hU.1
      clear hU
      simp only [puts, Act.put, List.setIfInBounds_toArray, List.set_cons_zero, List.set_cons_succ] at hF
      generalize uF 3 = x12 at h12 hF
      obtain rfl : x12 = (.pointer (some ⟨gs, 0, none⟩)) := h12
      subst hF
      go_wp2_with (fail)
      exact ⟨rfl, rfl, (Below.refl _ _), rfl⟩
    · intro uF W hC' hU aF hF
      have hC : Below v.heap.size v W := hC'
      clear hC'
      have h13 : (Det (.pointer (some ⟨gs, 0, none⟩))) (uF 4) W := hU.1
      clear hU
      simp only [puts, Act.put, List.setIfInBounds_toArray, List.set_cons_zero, List.set_cons_succ] at hF
      generalize uF 4 = x13 at h13 hF
      obtain rfl : x13 = (.pointer (some ⟨gs, 0, none⟩)) := h13
      subst hF
      go_wp2_with (fail)
      exact ⟨rfl, rfl, (Below.refl _ _), rfl⟩
    · intro uF W hC' hU aF hF
      have hC : Below v.heap.size v W := hC'
      clear hC'
      have h14 : (Det (.pointer (some ⟨gs, 1, none⟩))) (uF 5) W := hU.1
      clear hU
      simp only [puts, Act.put, List.setIfInBounds_toArray, List.set_cons_zero, List.set_cons_succ] at hF
      generalize uF 5 = x14 at h14 hF
      obtain rfl : x14 = (.pointer (some ⟨gs, 1, none⟩)) := h14
      subst hF
      have d2 := (H.out.below hC).c1
      go_wp2_with (fail)
      exact ⟨rfl, rfl, (Below.refl _ _), rfl⟩
    · intro uF W hC' hU aF hF
      have hC : Below v.heap.size v W := hC'
      clear hC'
      have h10 : (Det (.int .i64 n)) (uF 1) W := hU.1
      have h15 : (Det (.int .i64 init)) (uF 6) W := hU.2.1
      clear hU
      simp only [puts, Act.put, List.setIfInBounds_toArray, List.set_cons_zero, List.set_cons_succ] at hF
      generalize uF 1 = x10 at h10 hF
      generalize uF 6 = x15 at h15 hF
      obtain rfl : x10 = (.int .i64 n) := h10
      obtain rfl : x15 = (.int .i64 init) := h15
      subst hF
      go_wp2_with (fail)
      exact ⟨rfl, rfl, (Below.refl _ _), rfl⟩
    · intro uF W hC' hU aF hF
      have hC : Below v.heap.size v W := hC'
      clear hC'
      have h16 : (Det (.bool true)) (uF 7) W := hU.1
      clear hU
      simp only [puts, Act.put, List.setIfInBounds_toArray, List.set_cons_zero, List.set_cons_succ] at hF
      generalize uF 7 = x16 at h16 hF
      obtain rfl : x16 = (.bool true) := h16
      subst hF
      go_wp2_with (fail)
      exact ⟨rfl, rfl, (Below.refl _ _), rfl⟩
    · intro uF W hC' hU aF hF
      have hC : Below v.heap.size v W := hC'
      clear hC'
      have h17 : (Det (.bool true)) (uF 8) W := hU.1
      clear hU
      simp only [puts, Act.put, List.setIfInBounds_toArray, List.set_cons_zero, List.set_cons_succ] at hF
      generalize uF 8 = x17 at h17 hF
      obtain rfl : x17 = (.bool true) := h17
      subst hF
      go_wp2_with (fail)
      exact ⟨rfl, rfl, (Below.refl _ _), trivial⟩
    · intro uF W hC' hU aF hF
      have hC : Below v.heap.size v W := hC'
      clear hC'
      have h18 : Any (uF 9) W := hU.1
      have h17 : (Det (.bool true)) (uF 8) W := hU.2.1
      clear hU
      simp only [puts, Act.put, List.setIfInBounds_toArray, List.set_cons_zero, List.set_cons_succ] at hF
      generalize uF 9 = x18 at h18 hF
      generalize uF 8 = x17 at h17 hF
      obtain rfl : x17 = (.bool true) := h17
      subst hF
      have d3 : W.cell? ⟨w.heap.size, 3, none⟩ = some (.slice A m c) := by rw [(HB1.out.below hC HB1.out.lt).cell]; rfl
      go_wp2_with (fail)
      exact ⟨rfl, rfl, (Below.refl _ _), trivial⟩
    · intro uF W hC' hU aF hF
      have hC : Below v.heap.size v W := hC'
      clear hC'
      have h19 : Any (uF 10) W := hU.1
      have h17 : (Det (.bool true)) (uF 8) W := hU.2.1
      clear hU
      simp only [puts, Act.put, List.setIfInBounds_toArray, List.set_cons_zero, List.set_cons_succ] at hF
      generalize uF 10 = x19 at h19 hF
      generalize uF 8 = x17 at h17 hF
      obtain rfl : x17 = (.bool true) := h17
      subst hF
      go_wp2_with (fail)
      exact ⟨rfl, rfl, (Below.refl _ _), trivial⟩
    · intro uF W hC' hU aF hF
      have hC : Below v.heap.size v W := hC'
      clear hC'
      have h20 : Any (uF 11) W := hU.1
      have h17 : (Det (.bool true)) (uF 8) W := hU.2.1
      clear hU
      simp only [puts, Act.put, List.setIfInBounds_toArray, List.set_cons_zero, List.set_cons_succ] at hF
      generalize uF 11 = x20 at h20 hF
      generalize uF 8 = x17 at h17 hF
      obtain rfl : x17 = (.bool true) := h17
      subst hF
      go_wp2_with (fail)
      exact ⟨rfl, rfl, (Below.refl _ _), trivial⟩
    · intro uF W hC' hU aF hF
      have hC : Below v.heap.size v W := hC'
      clear hC'
      have h17 : (Det (.bool true)) (uF 8) W := hU.1
      have h21 : Any (uF 12) W := hU.2.1
      clear hU
      simp only [puts, Act.put, List.setIfInBounds_toArray, List.set_cons_zero, List.set_cons_succ] at hF
      generalize uF 8 = x17 at h17 hF
      generalize uF 12 = x21 at h21 hF
      obtain rfl : x17 = (.bool true) := h17
      subst hF
      go_wp2_with (fail)
      exact ⟨rfl, rfl, (Below.refl _ _), rfl⟩
    · intro uF W hC' hU aF hF
      have hC : Below v.heap.size v W := hC'
      clear hC'
      have h22 : (Det (.bool true)) (uF 13) W := hU.1
      clear hU
      simp only [puts, Act.put, List.setIfInBounds_toArray, List.set_cons_zero, List.set_cons_succ] at hF
      generalize uF 13 = x22 at h22 hF
      obtain rfl : x22 = (.bool true) := h22
      subst hF
      go_wp2_with (fail)
      exact ⟨rfl, rfl, (Below.refl _ _), rfl⟩
    · intro uF W hC' hU aF hF
      have hC : Below v.heap.size v W := hC'
      clear hC'
      have h23 : (Det (.bool true)) (uF 14) W := hU.1
      clear hU
      simp only [puts, Act.put, List.setIfInBounds_toArray, List.set_cons_zero, List.set_cons_succ] at hF
      generalize uF 14 = x23 at h23 hF
      obtain rfl : x23 = (.bool true) := h23
      subst hF
      go_wp2_with (fail)
      exact ⟨rfl, rfl, (Below.refl _ _), trivial⟩
    · intro uF W hC' hU aF hF
      have hC : Below v.heap.size v W := hC'
      clear hC'
      have h24 : Any (uF 15) W := hU.1
      have h23 : (Det (.bool true)) (uF 14) W := hU.2.1
      clear hU
      simp only [puts, Act.put, List.setIfInBounds_toArray, List.set_cons_zero, List.set_cons_succ] at hF
      generalize uF 15 = x24 at h24 hF
      generalize uF 14 = x23 at h23 hF
      obtain rfl : x23 = (.bool true) := h23
      subst hF
      have d3 : W.cell? ⟨w.heap.size, 3, none⟩ = some (.slice A m c) := by rw [(HB1.out.below hC HB1.out.lt).cell]; rfl
      go_wp2_with (fail)
      exact ⟨rfl, rfl, (Below.refl _ _), trivial⟩
    · intro uF W hC' hU aF hF
      have hC : Below v.heap.size v W := hC'
      clear hC'
      have h25 : Any (uF 16) W := hU.1
      have h23 : (Det (.bool true)) (uF 14) W := hU.2.1
      clear hU
      simp only [puts, Act.put, List.setIfInBounds_toArray, List.set_cons_zero, List.set_cons_succ] at hF
      generalize uF 16 = x25 at h25 hF
      generalize uF 14 = x23 at h23 hF
      obtain rfl : x23 = (.bool true) := h23
      subst hF
      go_wp2_with (fail)
      exact ⟨rfl, rfl, (Below.refl _ _), trivial⟩
    · intro uF W hC' hU aF hF
      have hC : Below v.heap.size v W := hC'
      clear hC'
      have h26 : Any (uF 17) W := hU.1
      have h23 : (Det (.bool true)) (uF 14) W := hU.2.1
      clear hU
      simp only [puts, Act.put, List.setIfInBounds_toArray, List.set_cons_zero, List.set_cons_succ] at hF
      generalize uF 17 = x26 at h26 hF
      generalize uF 14 = x23 at h23 hF
      obtain rfl : x23 = (.bool true) := h23
      subst hF
      go_wp2_with (fail)
      exact ⟨rfl, rfl, (Below.refl _ _), trivial⟩
    · intro uF W hC' hU aF hF
      have hC : Below v.heap.size v W := hC'
      clear hC'
      have h23 : (Det (.bool true)) (uF 14) W := hU.1
      have h27 : Any (uF 18) W := hU.2.1
      clear hU
      simp only [puts, Act.put, List.setIfInBounds_toArray, List.set_cons_zero, List.set_cons_succ] at hF
      generalize uF 14 = x23 at h23 hF
      generalize uF 18 = x27 at h27 hF
      obtain rfl : x23 = (.bool true) := h23
      subst hF
      go_wp2_with (fail)
      exact ⟨rfl, rfl, (Below.refl _ _), rfl⟩
  intro uF W1 hC' hU aF hF
  have hCW1 : Below v.heap.size v W1 := hC'
  clear hC'
  have h28 : (Det (.bool true)) (uF 19) W1 := hU.2.2.2.2.2.2.2.2.2.2.2.2.2.2.2.2.2.2.2.1
  clear hU
  simp only [puts, Act.put, List.setIfInBounds_toArray, List.set_cons_zero, List.set_cons_succ] at hF
  generalize uF 0 = x9 at hF
  generalize uF 1 = x10 at hF
  generalize uF 2 = x11 at hF
  generalize uF 3 = x12 at hF
  generalize uF 4 = x13 at hF
  generalize uF 5 = x14 at hF
  generalize uF 6 = x15 at hF
  generalize uF 7 = x16 at hF
  generalize uF 8 = x17 at hF
  generalize uF 9 = x18 at hF
  generalize uF 10 = x19 at hF
  generalize uF 11 = x20 at hF
  generalize uF 12 = x21 at hF
  generalize uF 13 = x22 at hF
  generalize uF 14 = x23 at hF
  generalize uF 15 = x24 at hF
  generalize uF 16 = x25 at hF
  generalize uF 17 = x26 at hF
  generalize uF 18 = x27 at hF
  generalize uF 19 = x28 at h28 hF
  obtain rfl : x28 = (.bool true) := h28
  subst hF
  have hz1 := hCW1.size
  go_wp2_with (first
    | (go_at_call 34; refine (rejects_c 12 W1).mono ?_; rintro e w3 ⟨g, rfl, hg, q3, hb3⟩; have b63 := (HB6.out.below hCW1 HB6.out.lt).below hb3 (Nat.lt_of_lt_of_le HB6.out.lt hCW1.size); have hw3 := (hbv.trans (hCW1.mono hz)).trans (hb3.mono (by omega)); have hz3 := hb3.size)
    | ((with_reducible show wpList _ _ _ (Oper.mk none (Op.store 42 (.tmp 6) (.tmp 29)) _ _ _ _ :: _) _ _); refine wpList_store_whole rfl 42 (.tmp 6) (.tmp 29) rfl g6 rfl [.slice (some ⟨g, 0, none⟩) 1 1, .bool false, .bool false] rfl aggSt rfl _ _ b63 rfl (by simp [Value.oneCell']) ?_; intro w8 b8 g8 s8))
  refine bodyPost_ret (results_cell_one rfl _ g6 _ #[.slice (some ⟨g, 0, none⟩) 1 1, .bool false, .bool false] aggSt rfl rfl b8) rfl ⟨⟨g, rfl, by omega, q3.grown g8 (by simp; omega)⟩, ?_, ?_⟩
  · exact ((H.out.below hCW1).below hb3).step b63 g8
  · exact hw3.grown g8 (by omega) (fun k hk => by cases hk; omega)

set_option maxHeartbeats 4000000 in
theorem hello_no2 {w : World} {base gs : Nat} {init : Int} {th ou ch ds dr : List UInt8} {st gr nx : Int} (h : Se w base gs init th ou st gr ch nx) (hdr : dr.length = 32) (k n x : Int) (A : Option Addr) (m c : Nat) (hn : n = init) (hm : m < 16) :
    Calls Try.prog 31 #[.pointer (some ⟨gs, 0, none⟩), .agg #[.int .i64 k, .int .i64 n, .int .i64 x, .slice A m c], .agg (arr8 dr)] w fun e w' => (∃ g, e = .returned (.agg #[.slice (some ⟨g, 0, none⟩) 1 1, .bool false, .bool false]) ∧ w.heap.size ≤ g ∧ Blk w' g 36 #[.int .i64 7, .int .i64 0, .int .i64 12, .slice none 0 0]) ∧ Se w' base gs init th ou st gr ch nx ∧ Below w.heap.size w w' := by
  have hii : (n != init) = false := by simp [hn]
  have hd16 : decide ((m : Int) < 16) = true := decide_eq_true (by omega)
  have hm16 : (m : Int) < 16 := by omega
  clear hn
  obtain ⟨v, hv⟩ : ∃ v, v = ((w.alloc (.cells #[.int .i64 k, .int .i64 n, .int .i64 x, .slice A m c] 36)).alloc (.cells (arr8 dr) 34)).alloc (.cells #[.slice none 0 0, .bool false, .bool false] 42) := ⟨_, rfl⟩
  obtain ⟨g5, hg5⟩ : ∃ g, g = w.heap.size + 1 := ⟨_, rfl⟩
  obtain ⟨g6, hg6⟩ : ∃ g, g = w.heap.size + 1 + 1 := ⟨_, rfl⟩
  have b1 : Blk v w.heap.size 36 #[.int .i64 k, .int .i64 n, .int .i64 x, .slice A m c] := by rw [hv]; exact ((Blk.new _ _ _).alloc _).alloc _
  have b5 : Blk v g5 34 (arr8 dr) := by
    have := (Blk.new (w.alloc (.cells #[.int .i64 k, .int .i64 n, .int .i64 x, .slice A m c] 36)) 34 (arr8 dr)).alloc (.cells #[.slice none 0 0, .bool false, .bool false] 42)
    rw [World.size_alloc] at this
    rw [hv, hg5]; exact this
  have b6 : Blk v g6 42 #[.slice none 0 0, .bool false, .bool false] := by
    have := Blk.new ((w.alloc (.cells #[.int .i64 k, .int .i64 n, .int .i64 x, .slice A m c] 36)).alloc (.cells (arr8 dr) 34)) 42 #[.slice none 0 0, .bool false, .bool false]
    rw [World.size_alloc, World.size_alloc] at this
    rw [hv, hg6]; exact this
  have hbv : Below w.heap.size w v := by rw [hv]; exact (((Below.refl _ _).alloc (Nat.le_refl _) _).alloc (by simp) _).alloc (by simp only [World.size_alloc]; omega) _
  have hz := hbv.size
  have hzv := b6.lt
  have hgs := h.lt
  have hG : w.heap.size < g5 ∧ g5 < g6 := by omega
  have H := Lib.hid (h.below hbv)
  have HV := Lib.hid hv
  have HG5 := Lib.hid hg5
  have HG6 := Lib.hid hg6
  have HB1 := Lib.hid b1
  have HB5 := Lib.hid b5
  have HB6 := Lib.hid b6
  have HDR := Lib.hid hdr
  clear hv b1 b5 b6 hg5 hg6 hdr
  go_enter Try.func31, Try.ntmps31
  go_wp2_with ((with_reducible show wpList _ _ _ (Oper.mk (some 6) (Op.alloc _) _ _ _ _ :: _) _ _); refine wpList_alloc_agg rfl 42 rfl #[.slice none 0 0, .bool false, .bool false] zeroSt ?_; simp only [World.size_alloc]; rw [← HV.out, ← HG6.out, ← HG5.out])
  refine wp_region_rel (fun W W' => Below W.heap.size W W') (fun W => Below v.heap.size v W)
    [Det (.pointer (some ⟨w.heap.size, 1, none⟩)), Det (.int .i64 n), Det (.pointer (some ⟨gs, 0, none⟩)), Det (.pointer (some ⟨gs, 0, none⟩)), Det (.pointer (some ⟨gs, 0, none⟩)), Det (.pointer (some ⟨gs, 1, none⟩)), Det (.int .i64 init), Det (.bool false), Det (.bool false), Det (.pointer (some ⟨w.heap.size, 3, none⟩)), Det (.slice A m c), Det (.int .i64 (m : Int)), Det (.bool true), Det (.bool true), Det (.bool true), Any, Any, Any, Any, Det (.bool true)]
    [[], [(0, some 9)], [], [(2, some 11)], [(3, some 12)], [(4, some 13)], [(5, some 14)], [(1, some 10), (6, some 15)], [(7, some 16)], [(8, some 17)], [(9, some 18), (8, some 17)], [(10, some 19), (8, some 17)], [(11, some 20), (8, some 17)], [(8, some 17), (12, some 21)], [(13, some 22)], [(14, some 23)], [(15, some 24), (14, some 23)], [(16, some 25), (14, some 23)], [(17, some 26), (14, some 23)], [(14, some 23), (18, some 27)]]
    [[], [0], [], [2], [2, 3], [2, 3, 4], [2, 3, 4, 5], [0, 1, 2, 3, 4, 5, 6], [0, 1, 2, 3, 4, 5, 6, 7], [0, 1, 2, 3, 4, 5, 6, 7, 8], [0, 1, 2, 3, 4, 5, 6, 7, 8, 9], [0, 1, 2, 3, 4, 5, 6, 7, 8, 9, 10], [0, 1, 2, 3, 4, 5, 6, 7, 8, 9, 10, 11], [0, 1, 2, 3, 4, 5, 6, 7, 8, 9, 10, 11, 12], [0, 1, 2, 3, 4, 5, 6, 7, 8, 9, 10, 11, 12, 13], [0, 1, 2, 3, 4, 5, 6, 7, 8, 9, 10, 11, 12, 13, 14], [0, 1, 2, 3, 4, 5, 6, 7, 8, 9, 10, 11, 12, 13, 14, 15], [0, 1, 2, 3, 4, 5, 6, 7, 8, 9, 10, 11, 12, 13, 14, 15, 16], [0, 1, 2, 3, 4, 5, 6, 7, 8, 9, 10, 11, 12, 13, 14, 15, 16, 17], [0, 1, 2, 3, 4, 5, 6, 7, 8, 9, 10, 11, 12, 13, 14, 15, 16, 17, 18]]
    [(0, some 9), (1, some 10), (2, some 11), (3, some 12), (4, some 13), (5, some 14), (6, some 15), (7, some 16), (8, some 17), (9, some 18), (10, some 19), (11, some 20), (12, some 21), (13, some 22), (14, some 23), (15, some 24), (16, some 25), (17, some 26), (18, some 27), (19, some 28)] (by kernel_rfl) (by kernel_rfl) (fun W W' h1 h2 => h1.trans (h2.mono h1.size)) ((Below.refl _ _).drew) ?_ ?_ ?_
  · exact (AllMono.cons Det.later (AllMono.cons Det.later (AllMono.cons Det.later (AllMono.cons Det.later (AllMono.cons Det.later (AllMono.cons Det.later (AllMono.cons Det.later (AllMono.cons Det.later (AllMono.cons Det.later (AllMono.cons Det.later (AllMono.cons Det.later (AllMono.cons Det.later (AllMono.cons Det.later (AllMono.cons Det.later (AllMono.cons Det.later (AllMono.cons Any.later (AllMono.cons Any.later (AllMono.cons Any.later (AllMono.cons Any.later (AllMono.cons Det.later AllMono.nil))))))))))))))))))))
  · refine AllOb.cons ?_ (AllOb.cons ?_ (AllOb.cons ?_ (AllOb.cons ?_ (AllOb.cons ?_ (AllOb.cons ?_ (AllOb.cons ?_ (AllOb.cons ?_ (AllOb.cons ?_ (AllOb.cons ?_ (AllOb.cons ?_ (AllOb.cons ?_ (AllOb.cons ?_ (AllOb.cons ?_ (AllOb.cons ?_ (AllOb.cons ?_ (AllOb.cons ?_ (AllOb.cons ?_ (AllOb.cons ?_ (AllOb.cons ?_ (AllOb.nil))))))))))))))))))))
    · intro uF W hC' hU aF hF
      have hC : Below v.heap.size v W := hC'
      clear hC'
      simp only [puts] at hF
      subst hF
      go_wp2_with (fail)
      exact ⟨rfl, rfl, (Below.refl _ _), rfl⟩
    · intro uF W hC' hU aF hF
      have hC : Below v.heap.size v W := hC'
      clear hC'
      have h9 : (Det (.pointer (some ⟨w.heap.size, 1, none⟩))) (uF 0) W := hU.1
      clear hU
      simp only [puts, Act.put, List.setIfInBounds_toArray, List.set_cons_zero, List.set_cons_succ] at hF
      generalize uF 0 = x9 at h9 hF
      obtain rfl : x9 = (.pointer (some ⟨w.heap.size, 1, none⟩)) := h9
      subst hF
      have d1 : W.cell? ⟨w.heap.size, 1, none⟩ = some (.int .i64 n) := by rw [(HB1.out.below hC HB1.out.lt).cell]; rfl
      go_wp2_with (fail)
      exact ⟨rfl, rfl, (Below.refl _ _), rfl⟩
    · intro uF W hC' hU aF hF
      have hC : Below v.heap.size v W := hC'
      clear hC'
      simp only [puts] at hF
      subst hF
      go_wp2_with (fail)
      exact ⟨rfl, rfl, (Below.refl _ _), rfl⟩
    · intro uF W hC' hU aF hF
      have hC : Below v.heap.size v W := hC'
      clear hC'
      have h11 : (Det (.pointer (some ⟨gs, 0, none⟩))) (uF 2) W := hU.1
      clear hU
      simp only [puts, Act.put, List.setIfInBounds_toArray, List.set_cons_zero, List.set_cons_succ] at hF
      generalize uF 2 = x11 at h11 hF
      obtain rfl : x11 = (.pointer (some ⟨gs, 0, none⟩)) := h11
      subst hF
      go_wp2_with (fail)
      exact ⟨rfl, rfl, (Below.refl _ _), rfl⟩
    · intro uF W hC' hU aF hF
      have hC : Below v.heap.size v W := hC'
      clear hC'
      have h12 : (Det (.pointer (some ⟨gs, 0, none⟩))) (uF 3) W := hU.1
      clear hU
      simp only [puts, Act.put, List.setIfInBounds_toArray, List.set_cons_zero, List.set_cons_succ] at hF
      generalize uF 3 = x12 at h12 hF
      obtain rfl : x12 = (.pointer (some ⟨gs, 0, none⟩)) := h12
      subst hF
      go_wp2_with (fail)
      exact ⟨rfl, rfl, (Below.refl _ _), rfl⟩
    · intro uF W hC' hU aF hF
      have hC : Below v.heap.size v W := hC'
      clear hC'
      have h13 : (Det (.pointer (some ⟨gs, 0, none⟩))) (uF 4) W := hU.1
      clear hU
      simp only [puts, Act.put, List.setIfInBounds_toArray, List.set_cons_zero, List.set_cons_succ] at hF
      generalize uF 4 = x13 at h13 hF
      obtain rfl : x13 = (.pointer (some ⟨gs, 0, none⟩)) := h13
      subst hF
      go_wp2_with (fail)
      exact ⟨rfl, rfl, (Below.refl _ _), rfl⟩
    · intro uF W hC' hU aF hF
      have hC : Below v.heap.size v W := hC'
      clear hC'
      have h14 : (Det (.pointer (some ⟨gs, 1, none⟩))) (uF 5) W := hU.1
      clear hU
      simp only [puts, Act.put, List.setIfInBounds_toArray, List.set_cons_zero, List.set_cons_succ] at hF
      generalize uF 5 = x14 at h14 hF
      obtain rfl : x14 = (.pointer (some ⟨gs, 1, none⟩)) := h14
      subst hF
      have d2 := (H.out.below hC).c1
      go_wp2_with (fail)
      exact ⟨rfl, rfl, (Below.refl _ _), rfl⟩
    · intro uF W hC' hU aF hF
      have hC : Below v.heap.size v W := hC'
      clear hC'
      have h10 : (Det (.int .i64 n)) (uF 1) W := hU.1
      have h15 : (Det (.int .i64 init)) (uF 6) W := hU.2.1
      clear hU
      simp only [puts, Act.put, List.setIfInBounds_toArray, List.set_cons_zero, List.set_cons_succ] at hF
      generalize uF 1 = x10 at h10 hF
      generalize uF 6 = x15 at h15 hF
      obtain rfl : x10 = (.int .i64 n) := h10
      obtain rfl : x15 = (.int .i64 init) := h15
      subst hF
      go_wp2_with (fail)
      exact ⟨rfl, rfl, (Below.refl _ _), rfl⟩
    · intro uF W hC' hU aF hF
      have hC : Below v.heap.size v W := hC'
      clear hC'
      have h16 : (Det (.bool false)) (uF 7) W := hU.1
      clear hU
      simp only [puts, Act.put, List.setIfInBounds_toArray, List.set_cons_zero, List.set_cons_succ] at hF
      generalize uF 7 = x16 at h16 hF
      obtain rfl : x16 = (.bool false) := h16
      subst hF
      go_wp2_with (fail)
      exact ⟨rfl, rfl, (Below.refl _ _), rfl⟩
    · intro uF W hC' hU aF hF
      have hC : Below v.heap.size v W := hC'
      clear hC'
      have h17 : (Det (.bool false)) (uF 8) W := hU.1
      clear hU
      simp only [puts, Act.put, List.setIfInBounds_toArray, List.set_cons_zero, List.set_cons_succ] at hF
      generalize uF 8 = x17 at h17 hF
      obtain rfl : x17 = (.bool false) := h17
      subst hF
      go_wp2_with (fail)
      exact ⟨rfl, rfl, (Below.refl _ _), rfl⟩
    · intro uF W hC' hU aF hF
      have hC : Below v.heap.size v W := hC'
      clear hC'
      have h18 : (Det (.pointer (some ⟨w.heap.size, 3, none⟩))) (uF 9) W := hU.1
      have h17 : (Det (.bool false)) (uF 8) W := hU.2.1
      clear hU
      simp only [puts, Act.put, List.setIfInBounds_toArray, List.set_cons_zero, List.set_cons_succ] at hF
      generalize uF 9 = x18 at h18 hF
      generalize uF 8 = x17 at h17 hF
      obtain rfl : x18 = (.pointer (some ⟨w.heap.size, 3, none⟩)) := h18
      obtain rfl : x17 = (.bool false) := h17
      subst hF
      have d3 : W.cell? ⟨w.heap.size, 3, none⟩ = some (.slice A m c) := by rw [(HB1.out.below hC HB1.out.lt).cell]; rfl
      go_wp2_with (fail)
      exact ⟨rfl, rfl, (Below.refl _ _), rfl⟩
    · intro uF W hC' hU aF hF
      have hC : Below v.heap.size v W := hC'
      clear hC'
      have h19 : (Det (.slice A m c)) (uF 10) W := hU.1
      have h17 : (Det (.bool false)) (uF 8) W := hU.2.1
      clear hU
      simp only [puts, Act.put, List.setIfInBounds_toArray, List.set_cons_zero, List.set_cons_succ] at hF
      generalize uF 10 = x19 at h19 hF
      generalize uF 8 = x17 at h17 hF
      obtain rfl : x19 = (.slice A m c) := h19
      obtain rfl : x17 = (.bool false) := h17
      subst hF
      go_wp2_with (fail)
      exact ⟨rfl, rfl, (Below.refl _ _), rfl⟩
    · intro uF W hC' hU aF hF
      have hC : Below v.heap.size v W := hC'
      clear hC'
      have h20 : (Det (.int .i64 (m : Int))) (uF 11) W := hU.1
      have h17 : (Det (.bool false)) (uF 8) W := hU.2.1
      clear hU
      simp only [puts, Act.put, List.setIfInBounds_toArray, List.set_cons_zero, List.set_cons_succ] at hF
      generalize uF 11 = x20 at h20 hF
      generalize uF 8 = x17 at h17 hF
      obtain rfl : x20 = (.int .i64 (m : Int)) := h20
      obtain rfl : x17 = (.bool false) := h17
      subst hF
      go_wp2_with (fail)
      exact ⟨rfl, rfl, (Below.refl _ _), rfl⟩
    · intro uF W hC' hU aF hF
      have hC : Below v.heap.size v W := hC'
      clear hC'
      have h17 : (Det (.bool false)) (uF 8) W := hU.1
      have h21 : (Det (.bool true)) (uF 12) W := hU.2.1
      clear hU
      simp only [puts, Act.put, List.setIfInBounds_toArray, List.set_cons_zero, List.set_cons_succ] at hF
      generalize uF 8 = x17 at h17 hF
      generalize uF 12 = x21 at h21 hF
      obtain rfl : x17 = (.bool false) := h17
      obtain rfl : x21 = (.bool true) := h21
      subst hF
      go_wp2_with (fail)
      exact ⟨rfl, rfl, (Below.refl _ _), rfl⟩
    · intro uF W hC' hU aF hF
      have hC : Below v.heap.size v W := hC'
      clear hC'
      have h22 : (Det (.bool true)) (uF 13) W := hU.1
      clear hU
      simp only [puts, Act.put, List.setIfInBounds_toArray, List.set_cons_zero, List.set_cons_succ] at hF
      generalize uF 13 = x22 at h22 hF
      obtain rfl : x22 = (.bool true) := h22
      subst hF
      go_wp2_with (fail)
      exact ⟨rfl, rfl, (Below.refl _ _), rfl⟩
    · intro uF W hC' hU aF hF
      have hC : Below v.heap.size v W := hC'
      clear hC'
      have h23 : (Det (.bool true)) (uF 14) W := hU.1
      clear hU
      simp only [puts, Act.put, List.setIfInBounds_toArray, List.set_cons_zero, List.set_cons_succ] at hF
      generalize uF 14 = x23 at h23 hF
      obtain rfl : x23 = (.bool true) := h23
      subst hF
      go_wp2_with (fail)
      exact ⟨rfl, rfl, (Below.refl _ _), trivial⟩
    · intro uF W hC' hU aF hF
      have hC : Below v.heap.size v W := hC'
      clear hC'
      have h24 : Any (uF 15) W := hU.1
      have h23 : (Det (.bool true)) (uF 14) W := hU.2.1
      clear hU
      simp only [puts, Act.put, List.setIfInBounds_toArray, List.set_cons_zero, List.set_cons_succ] at hF
      generalize uF 15 = x24 at h24 hF
      generalize uF 14 = x23 at h23 hF
      obtain rfl : x23 = (.bool true) := h23
      subst hF
      have d3 : W.cell? ⟨w.heap.size, 3, none⟩ = some (.slice A m c) := by rw [(HB1.out.below hC HB1.out.lt).cell]; rfl
      go_wp2_with (fail)
      exact ⟨rfl, rfl, (Below.refl _ _), trivial⟩
    · intro uF W hC' hU aF hF
      have hC : Below v.heap.size v W := hC'
      clear hC'
      have h25 : Any (uF 16) W := hU.1
      have h23 : (Det (.bool true)) (uF 14) W := hU.2.1
      clear hU
      simp only [puts, Act.put, List.setIfInBounds_toArray, List.set_cons_zero, List.set_cons_succ] at hF
      generalize uF 16 = x25 at h25 hF
      generalize uF 14 = x23 at h23 hF
      obtain rfl : x23 = (.bool true) := h23
      subst hF
      go_wp2_with (fail)
      exact ⟨rfl, rfl, (Below.refl _ _), trivial⟩
    · intro uF W hC' hU aF hF
      have hC : Below v.heap.size v W := hC'
      clear hC'
      have h26 : Any (uF 17) W := hU.1
      have h23 : (Det (.bool true)) (uF 14) W := hU.2.1
      clear hU
      simp only [puts, Act.put, List.setIfInBounds_toArray, List.set_cons_zero, List.set_cons_succ] at hF
      generalize uF 17 = x26 at h26 hF
      generalize uF 14 = x23 at h23 hF
      obtain rfl : x23 = (.bool true) := h23
      subst hF
      go_wp2_with (fail)
      exact ⟨rfl, rfl, (Below.refl _ _), trivial⟩
    · intro uF W hC' hU aF hF
      have hC : Below v.heap.size v W := hC'
      clear hC'
      have h23 : (Det (.bool true)) (uF 14) W := hU.1
      have h27 : Any (uF 18) W := hU.2.1
      clear hU
      simp only [puts, Act.put, List.setIfInBounds_toArray, List.set_cons_zero, List.set_cons_succ] at hF
      generalize uF 14 = x23 at h23 hF
      generalize uF 18 = x27 at h27 hF
      obtain rfl : x23 = (.bool true) := h23
      subst hF
      go_wp2_with (fail)
      exact ⟨rfl, rfl, (Below.refl _ _), rfl⟩
  intro uF W1 hC' hU aF hF
  have hCW1 : Below v.heap.size v W1 := hC'
  clear hC'
  have h28 : (Det (.bool true)) (uF 19) W1 := hU.2.2.2.2.2.2.2.2.2.2.2.2.2.2.2.2.2.2.2.1
  clear hU
  simp only [puts, Act.put, List.setIfInBounds_toArray, List.set_cons_zero, List.set_cons_succ] at hF
  generalize uF 0 = x9 at hF
  generalize uF 1 = x10 at hF
  generalize uF 2 = x11 at hF
  generalize uF 3 = x12 at hF
  generalize uF 4 = x13 at hF
  generalize uF 5 = x14 at hF
  generalize uF 6 = x15 at hF
  generalize uF 7 = x16 at hF
  generalize uF 8 = x17 at hF
  generalize uF 9 = x18 at hF
  generalize uF 10 = x19 at hF
  generalize uF 11 = x20 at hF
  generalize uF 12 = x21 at hF
  generalize uF 13 = x22 at hF
  generalize uF 14 = x23 at hF
  generalize uF 15 = x24 at hF
  generalize uF 16 = x25 at hF
  generalize uF 17 = x26 at hF
  generalize uF 18 = x27 at hF
  generalize uF 19 = x28 at h28 hF
  obtain rfl : x28 = (.bool true) := h28
  subst hF
  have hz1 := hCW1.size
  go_wp2_with (first
    | (go_at_call 34; refine (rejects_c 12 W1).mono ?_; rintro e w3 ⟨g, rfl, hg, q3, hb3⟩; have b63 := (HB6.out.below hCW1 HB6.out.lt).below hb3 (Nat.lt_of_lt_of_le HB6.out.lt hCW1.size); have hw3 := (hbv.trans (hCW1.mono hz)).trans (hb3.mono (by omega)); have hz3 := hb3.size)
    | ((with_reducible show wpList _ _ _ (Oper.mk none (Op.store 42 (.tmp 6) (.tmp 29)) _ _ _ _ :: _) _ _); refine wpList_store_whole rfl 42 (.tmp 6) (.tmp 29) rfl g6 rfl [.slice (some ⟨g, 0, none⟩) 1 1, .bool false, .bool false] rfl aggSt rfl _ _ b63 rfl (by simp [Value.oneCell']) ?_; intro w8 b8 g8 s8))
  refine bodyPost_ret (results_cell_one rfl _ g6 _ #[.slice (some ⟨g, 0, none⟩) 1 1, .bool false, .bool false] aggSt rfl rfl b8) rfl ⟨⟨g, rfl, by omega, q3.grown g8 (by simp; omega)⟩, ?_, ?_⟩
  · exact ((H.out.below hCW1).below hb3).step b63 g8
  · exact hw3.grown g8 (by omega) (fun k hk => by cases hk; omega)

set_option maxHeartbeats 4000000 in
theorem hello_no3 {w : World} {base gs : Nat} {init : Int} {th ou ch ds dr : List UInt8} {st gr nx : Int} (h : Se w base gs init th ou st gr ch nx) (hdr : dr.length = 32) (k n x : Int) (A : Option Addr) (m c : Nat) (hn : n = init) (hm : 64 < m) :
    Calls Try.prog 31 #[.pointer (some ⟨gs, 0, none⟩), .agg #[.int .i64 k, .int .i64 n, .int .i64 x, .slice A m c], .agg (arr8 dr)] w fun e w' => (∃ g, e = .returned (.agg #[.slice (some ⟨g, 0, none⟩) 1 1, .bool false, .bool false]) ∧ w.heap.size ≤ g ∧ Blk w' g 36 #[.int .i64 7, .int .i64 0, .int .i64 12, .slice none 0 0]) ∧ Se w' base gs init th ou st gr ch nx ∧ Below w.heap.size w w' := by
  have hii : (n != init) = false := by simp [hn]
  have hd16 : decide ((m : Int) < 16) = false := decide_eq_false (by omega)
  have hm16 : ¬ (m : Int) < 16 := by omega
  have hd64 : decide ((64 : Int) < (m : Int)) = true := decide_eq_true (by omega)
  have hm64 : (64 : Int) < (m : Int) := by omega
  clear hn
  obtain ⟨v, hv⟩ : ∃ v, v = ((w.alloc (.cells #[.int .i64 k, .int .i64 n, .int .i64 x, .slice A m c] 36)).alloc (.cells (arr8 dr) 34)).alloc (.cells #[.slice none 0 0, .bool false, .bool false] 42) := ⟨_, rfl⟩
  obtain ⟨g5, hg5⟩ : ∃ g, g = w.heap.size + 1 := ⟨_, rfl⟩
  obtain ⟨g6, hg6⟩ : ∃ g, g = w.heap.size + 1 + 1 := ⟨_, rfl⟩
  have b1 : Blk v w.heap.size 36 #[.int .i64 k, .int .i64 n, .int .i64 x, .slice A m c] := by rw [hv]; exact ((Blk.new _ _ _).alloc _).alloc _
  have b5 : Blk v g5 34 (arr8 dr) := by
    have := (Blk.new (w.alloc (.cells #[.int .i64 k, .int .i64 n, .int .i64 x, .slice A m c] 36)) 34 (arr8 dr)).alloc (.cells #[.slice none 0 0, .bool false, .bool false] 42)
    rw [World.size_alloc] at this
    rw [hv, hg5]; exact this
  have b6 : Blk v g6 42 #[.slice none 0 0, .bool false, .bool false] := by
    have := Blk.new ((w.alloc (.cells #[.int .i64 k, .int .i64 n, .int .i64 x, .slice A m c] 36)).alloc (.cells (arr8 dr) 34)) 42 #[.slice none 0 0, .bool false, .bool false]
    rw [World.size_alloc, World.size_alloc] at this
    rw [hv, hg6]; exact this
  have hbv : Below w.heap.size w v := by rw [hv]; exact (((Below.refl _ _).alloc (Nat.le_refl _) _).alloc (by simp) _).alloc (by simp only [World.size_alloc]; omega) _
  have hz := hbv.size
  have hzv := b6.lt
  have hgs := h.lt
  have hG : w.heap.size < g5 ∧ g5 < g6 := by omega
  have H := Lib.hid (h.below hbv)
  have HV := Lib.hid hv
  have HG5 := Lib.hid hg5
  have HG6 := Lib.hid hg6
  have HB1 := Lib.hid b1
  have HB5 := Lib.hid b5
  have HB6 := Lib.hid b6
  have HDR := Lib.hid hdr
  clear hv b1 b5 b6 hg5 hg6 hdr
  go_enter Try.func31, Try.ntmps31
  go_wp2_with ((with_reducible show wpList _ _ _ (Oper.mk (some 6) (Op.alloc _) _ _ _ _ :: _) _ _); refine wpList_alloc_agg rfl 42 rfl #[.slice none 0 0, .bool false, .bool false] zeroSt ?_; simp only [World.size_alloc]; rw [← HV.out, ← HG6.out, ← HG5.out])
  refine wp_region_rel (fun W W' => Below W.heap.size W W') (fun W => Below v.heap.size v W)
    [Det (.pointer (some ⟨w.heap.size, 1, none⟩)), Det (.int .i64 n), Det (.pointer (some ⟨gs, 0, none⟩)), Det (.pointer (some ⟨gs, 0, none⟩)), Det (.pointer (some ⟨gs, 0, none⟩)), Det (.pointer (some ⟨gs, 1, none⟩)), Det (.int .i64 init), Det (.bool false), Det (.bool false), Det (.pointer (some ⟨w.heap.size, 3, none⟩)), Det (.slice A m c), Det (.int .i64 (m : Int)), Det (.bool false), Det (.bool false), Det (.bool false), Det (.pointer (some ⟨w.heap.size, 3, none⟩)), Det (.slice A m c), Det (.int .i64 (m : Int)), Det (.bool true), Det (.bool true)]
    [[], [(0, some 9)], [], [(2, some 11)], [(3, some 12)], [(4, some 13)], [(5, some 14)], [(1, some 10), (6, some 15)], [(7, some 16)], [(8, some 17)], [(9, some 18), (8, some 17)], [(10, some 19), (8, some 17)], [(11, some 20), (8, some 17)], [(8, some 17), (12, some 21)], [(13, some 22)], [(14, some 23)], [(15, some 24), (14, some 23)], [(16, some 25), (14, some 23)], [(17, some 26), (14, some 23)], [(14, some 23), (18, some 27)]]
    [[], [0], [], [2], [2, 3], [2, 3, 4], [2, 3, 4, 5], [0, 1, 2, 3, 4, 5, 6], [0, 1, 2, 3, 4, 5, 6, 7], [0, 1, 2, 3, 4, 5, 6, 7, 8], [0, 1, 2, 3, 4, 5, 6, 7, 8, 9], [0, 1, 2, 3, 4, 5, 6, 7, 8, 9, 10], [0, 1, 2, 3, 4, 5, 6, 7, 8, 9, 10, 11], [0, 1, 2, 3, 4, 5, 6, 7, 8, 9, 10, 11, 12], [0, 1, 2, 3, 4, 5, 6, 7, 8, 9, 10, 11, 12, 13], [0, 1, 2, 3, 4, 5, 6, 7, 8, 9, 10, 11, 12, 13, 14], [0, 1, 2, 3, 4, 5, 6, 7, 8, 9, 10, 11, 12, 13, 14, 15], [0, 1, 2, 3, 4, 5, 6, 7, 8, 9, 10, 11, 12, 13, 14, 15, 16], [0, 1, 2, 3, 4, 5, 6, 7, 8, 9, 10, 11, 12, 13, 14, 15, 16, 17], [0, 1, 2, 3, 4, 5, 6, 7, 8, 9, 10, 11, 12, 13, 14, 15, 16, 17, 18]]
    [(0, some 9), (1, some 10), (2, some 11), (3, some 12), (4, some 13), (5, some 14), (6, some 15), (7, some 16), (8, some 17), (9, some 18), (10, some 19), (11, some 20), (12, some 21), (13, some 22), (14, some 23), (15, some 24), (16, some 25), (17, some 26), (18, some 27), (19, some 28)] (by kernel_rfl) (by kernel_rfl) (fun W W' h1 h2 => h1.trans (h2.mono h1.size)) ((Below.refl _ _).drew) ?_ ?_ ?_
  · exact (AllMono.cons Det.later (AllMono.cons Det.later (AllMono.cons Det.later (AllMono.cons Det.later (AllMono.cons Det.later (AllMono.cons Det.later (AllMono.cons Det.later (AllMono.cons Det.later (AllMono.cons Det.later (AllMono.cons Det.later (AllMono.cons Det.later (AllMono.cons Det.later (AllMono.cons Det.later (AllMono.cons Det.later (AllMono.cons Det.later (AllMono.cons Det.later (AllMono.cons Det.later (AllMono.cons Det.later (AllMono.cons Det.later (AllMono.cons Det.later AllMono.nil))))))))))))))))))))
  · refine AllOb.cons ?_ (AllOb.cons ?_ (AllOb.cons ?_ (AllOb.cons ?_ (AllOb.cons ?_ (AllOb.cons ?_ (AllOb.cons ?_ (AllOb.cons ?_ (AllOb.cons ?_ (AllOb.cons ?_ (AllOb.cons ?_ (AllOb.cons ?_ (AllOb.cons ?_ (AllOb.cons ?_ (AllOb.cons ?_ (AllOb.cons ?_ (AllOb.cons ?_ (AllOb.cons ?_ (AllOb.cons ?_ (AllOb.cons ?_ (AllOb.nil))))))))))))))))))))
    · intro uF W hC' hU aF hF
      have hC : Below v.heap.size v W := hC'
      clear hC'
      simp only [puts] at hF
      subst hF
      go_wp2_with (fail)
      exact ⟨rfl, rfl, (Below.refl _ _), rfl⟩
    · intro uF W hC' hU aF hF
      have hC : Below v.heap.size v W := hC'
      clear hC'
      have h9 : (Det (.pointer (some ⟨w.heap.size, 1, none⟩))) (uF 0) W := hU.1
      clear hU
      simp only [puts, Act.put, List.setIfInBounds_toArray, List.set_cons_zero, List.set_cons_succ] at hF
      generalize uF 0 = x9 at h9 hF
      obtain rfl : x9 = (.pointer (some ⟨w.heap.size, 1, none⟩)) := h9
      subst hF
      have d1 : W.cell? ⟨w.heap.size, 1, none⟩ = some (.int .i64 n) := by rw [(HB1.out.below hC HB1.out.lt).cell]; rfl
      go_wp2_with (fail)
      exact ⟨rfl, rfl, (Below.refl _ _), rfl⟩
    · intro uF W hC' hU aF hF
      have hC : Below v.heap.size v W := hC'
      clear hC'
      simp only [puts] at hF
      subst hF
      go_wp2_with (fail)
      exact ⟨rfl, rfl, (Below.refl _ _), rfl⟩
    · intro uF W hC' hU aF hF
      have hC : Below v.heap.size v W := hC'
      clear hC'
      have h11 : (Det (.pointer (some ⟨gs, 0, none⟩))) (uF 2) W := hU.1
      clear hU
      simp only [puts, Act.put, List.setIfInBounds_toArray, List.set_cons_zero, List.set_cons_succ] at hF
      generalize uF 2 = x11 at h11 hF
      obtain rfl : x11 = (.pointer (some ⟨gs, 0, none⟩)) := h11
      subst hF
      go_wp2_with (fail)
      exact ⟨rfl, rfl, (Below.refl _ _), rfl⟩
    · intro uF W hC' hU aF hF
      have hC : Below v.heap.size v W := hC'
      clear hC'
      have h12 : (Det (.pointer (some ⟨gs, 0, none⟩))) (uF 3) W := hU.1
      clear hU
      simp only [puts, Act.put, List.setIfInBounds_toArray, List.set_cons_zero, List.set_cons_succ] at hF
      generalize uF 3 = x12 at h12 hF
      obtain rfl : x12 = (.pointer (some ⟨gs, 0, none⟩)) := h12
      subst hF
      go_wp2_with (fail)
      exact ⟨rfl, rfl, (Below.refl _ _), rfl⟩
    · intro uF W hC' hU aF hF
      have hC : Below v.heap.size v W := hC'
      clear hC'
      have h13 : (Det (.pointer (some ⟨gs, 0, none⟩))) (uF 4) W := hU.1
      clear hU
      simp only [puts, Act.put, List.setIfInBounds_toArray, List.set_cons_zero, List.set_cons_succ] at hF
      generalize uF 4 = x13 at h13 hF
      obtain rfl : x13 = (.pointer (some ⟨gs, 0, none⟩)) := h13
      subst hF
      go_wp2_with (fail)
      exact ⟨rfl, rfl, (Below.refl _ _), rfl⟩
    · intro uF W hC' hU aF hF
      have hC : Below v.heap.size v W := hC'
      clear hC'
      have h14 : (Det (.pointer (some ⟨gs, 1, none⟩))) (uF 5) W := hU.1
      clear hU
      simp only [puts, Act.put, List.setIfInBounds_toArray, List.set_cons_zero, List.set_cons_succ] at hF
      generalize uF 5 = x14 at h14 hF
      obtain rfl : x14 = (.pointer (some ⟨gs, 1, none⟩)) := h14
      subst hF
      have d2 := (H.out.below hC).c1
      go_wp2_with (fail)
      exact ⟨rfl, rfl, (Below.refl _ _), rfl⟩
    · intro uF W hC' hU aF hF
      have hC : Below v.heap.size v W := hC'
      clear hC'
      have h10 : (Det (.int .i64 n)) (uF 1) W := hU.1
      have h15 : (Det (.int .i64 init)) (uF 6) W := hU.2.1
      clear hU
      simp only [puts, Act.put, List.setIfInBounds_toArray, List.set_cons_zero, List.set_cons_succ] at hF
      generalize uF 1 = x10 at h10 hF
      generalize uF 6 = x15 at h15 hF
      obtain rfl : x10 = (.int .i64 n) := h10
      obtain rfl : x15 = (.int .i64 init) := h15
      subst hF
      go_wp2_with (fail)
      exact ⟨rfl, rfl, (Below.refl _ _), rfl⟩
    · intro uF W hC' hU aF hF
      have hC : Below v.heap.size v W := hC'
      clear hC'
      have h16 : (Det (.bool false)) (uF 7) W := hU.1
      clear hU
      simp only [puts, Act.put, List.setIfInBounds_toArray, List.set_cons_zero, List.set_cons_succ] at hF
      generalize uF 7 = x16 at h16 hF
      obtain rfl : x16 = (.bool false) := h16
      subst hF
      go_wp2_with (fail)
      exact ⟨rfl, rfl, (Below.refl _ _), rfl⟩
    · intro uF W hC' hU aF hF
      have hC : Below v.heap.size v W := hC'
      clear hC'
      have h17 : (Det (.bool false)) (uF 8) W := hU.1
      clear hU
      simp only [puts, Act.put, List.setIfInBounds_toArray, List.set_cons_zero, List.set_cons_succ] at hF
      generalize uF 8 = x17 at h17 hF
      obtain rfl : x17 = (.bool false) := h17
      subst hF
      go_wp2_with (fail)
      exact ⟨rfl, rfl, (Below.refl _ _), rfl⟩
    · intro uF W hC' hU aF hF
      have hC : Below v.heap.size v W := hC'
      clear hC'
      have h18 : (Det (.pointer (some ⟨w.heap.size, 3, none⟩))) (uF 9) W := hU.1
      have h17 : (Det (.bool false)) (uF 8) W := hU.2.1
      clear hU
      simp only [puts, Act.put, List.setIfInBounds_toArray, List.set_cons_zero, List.set_cons_succ] at hF
      generalize uF 9 = x18 at h18 hF
      generalize uF 8 = x17 at h17 hF
      obtain rfl : x18 = (.pointer (some ⟨w.heap.size, 3, none⟩)) := h18
      obtain rfl : x17 = (.bool false) := h17
      subst hF
      have d3 : W.cell? ⟨w.heap.size, 3, none⟩ = some (.slice A m c) := by rw [(HB1.out.below hC HB1.out.lt).cell]; rfl
      go_wp2_with (fail)
      exact ⟨rfl, rfl, (Below.refl _ _), rfl⟩
    · intro uF W hC' hU aF hF
      have hC : Below v.heap.size v W := hC'
      clear hC'
      have h19 : (Det (.slice A m c)) (uF 10) W := hU.1
      have h17 : (Det (.bool false)) (uF 8) W := hU.2.1
      clear hU
      simp only [puts, Act.put, List.setIfInBounds_toArray, List.set_cons_zero, List.set_cons_succ] at hF
      generalize uF 10 = x19 at h19 hF
      generalize uF 8 = x17 at h17 hF
      obtain rfl : x19 = (.slice A m c) := h19
      obtain rfl : x17 = (.bool false) := h17
      subst hF
      go_wp2_with (fail)
      exact ⟨rfl, rfl, (Below.refl _ _), rfl⟩
    · intro uF W hC' hU aF hF
      have hC : Below v.heap.size v W := hC'
      clear hC'
      have h20 : (Det (.int .i64 (m : Int))) (uF 11) W := hU.1
      have h17 : (Det (.bool false)) (uF 8) W := hU.2.1
      clear hU
      simp only [puts, Act.put, List.setIfInBounds_toArray, List.set_cons_zero, List.set_cons_succ] at hF
      generalize uF 11 = x20 at h20 hF
      generalize uF 8 = x17 at h17 hF
      obtain rfl : x20 = (.int .i64 (m : Int)) := h20
      obtain rfl : x17 = (.bool false) := h17
      subst hF
      go_wp2_with (fail)
      exact ⟨rfl, rfl, (Below.refl _ _), rfl⟩
    · intro uF W hC' hU aF hF
      have hC : Below v.heap.size v W := hC'
      clear hC'
      have h17 : (Det (.bool false)) (uF 8) W := hU.1
      have h21 : (Det (.bool false)) (uF 12) W := hU.2.1
      clear hU
      simp only [puts, Act.put, List.setIfInBounds_toArray, List.set_cons_zero, List.set_cons_succ] at hF
      generalize uF 8 = x17 at h17 hF
      generalize uF 12 = x21 at h21 hF
      obtain rfl : x17 = (.bool false) := h17
      obtain rfl : x21 = (.bool false) := h21
      subst hF
      go_wp2_with (fail)
      exact ⟨rfl, rfl, (Below.refl _ _), rfl⟩
    · intro uF W hC' hU aF hF
      have hC : Below v.heap.size v W := hC'
      clear hC'
      have h22 : (Det (.bool false)) (uF 13) W := hU.1
      clear hU
      simp only [puts, Act.put, List.setIfInBounds_toArray, List.set_cons_zero, List.set_cons_succ] at hF
      generalize uF 13 = x22 at h22 hF
      obtain rfl : x22 = (.bool false) := h22
      subst hF
      go_wp2_with (fail)
      exact ⟨rfl, rfl, (Below.refl _ _), rfl⟩
    · intro uF W hC' hU aF hF
      have hC : Below v.heap.size v W := hC'
      clear hC'
      have h23 : (Det (.bool false)) (uF 14) W := hU.1
      clear hU
      simp only [puts, Act.put, List.setIfInBounds_toArray, List.set_cons_zero, List.set_cons_succ] at hF
      generalize uF 14 = x23 at h23 hF
      obtain rfl : x23 = (.bool false) := h23
      subst hF
      go_wp2_with (fail)
      exact ⟨rfl, rfl, (Below.refl _ _), rfl⟩
    · intro uF W hC' hU aF hF
      have hC : Below v.heap.size v W := hC'
      clear hC'
      have h24 : (Det (.pointer (some ⟨w.heap.size, 3, none⟩))) (uF 15) W := hU.1
      have h23 : (Det (.bool false)) (uF 14) W := hU.2.1
      clear hU
      simp only [puts, Act.put, List.setIfInBounds_toArray, List.set_cons_zero, List.set_cons_succ] at hF
      generalize uF 15 = x24 at h24 hF
      generalize uF 14 = x23 at h23 hF
      obtain rfl : x24 = (.pointer (some ⟨w.heap.size, 3, none⟩)) := h24
      obtain rfl : x23 = (.bool false) := h23
      subst hF
      have d3 : W.cell? ⟨w.heap.size, 3, none⟩ = some (.slice A m c) := by rw [(HB1.out.below hC HB1.out.lt).cell]; rfl
      go_wp2_with (fail)
      exact ⟨rfl, rfl, (Below.refl _ _), rfl⟩
    · intro uF W hC' hU aF hF
      have hC : Below v.heap.size v W := hC'
      clear hC'
      have h25 : (Det (.slice A m c)) (uF 16) W := hU.1
      have h23 : (Det (.bool false)) (uF 14) W := hU.2.1
      clear hU
      simp only [puts, Act.put, List.setIfInBounds_toArray, List.set_cons_zero, List.set_cons_succ] at hF
      generalize uF 16 = x25 at h25 hF
      generalize uF 14 = x23 at h23 hF
      obtain rfl : x25 = (.slice A m c) := h25
      obtain rfl : x23 = (.bool false) := h23
      subst hF
      go_wp2_with (fail)
      exact ⟨rfl, rfl, (Below.refl _ _), rfl⟩
    · intro uF W hC' hU aF hF
      have hC : Below v.heap.size v W := hC'
      clear hC'
      have h26 : (Det (.int .i64 (m : Int))) (uF 17) W := hU.1
      have h23 : (Det (.bool false)) (uF 14) W := hU.2.1
      clear hU
      simp only [puts, Act.put, List.setIfInBounds_toArray, List.set_cons_zero, List.set_cons_succ] at hF
      generalize uF 17 = x26 at h26 hF
      generalize uF 14 = x23 at h23 hF
      obtain rfl : x26 = (.int .i64 (m : Int)) := h26
      obtain rfl : x23 = (.bool false) := h23
      subst hF
      go_wp2_with (fail)
      exact ⟨rfl, rfl, (Below.refl _ _), rfl⟩
    · intro uF W hC' hU aF hF
      have hC : Below v.heap.size v W := hC'
      clear hC'
      have h23 : (Det (.bool false)) (uF 14) W := hU.1
      have h27 : (Det (.bool true)) (uF 18) W := hU.2.1
      clear hU
      simp only [puts, Act.put, List.setIfInBounds_toArray, List.set_cons_zero, List.set_cons_succ] at hF
      generalize uF 14 = x23 at h23 hF
      generalize uF 18 = x27 at h27 hF
      obtain rfl : x23 = (.bool false) := h23
      obtain rfl : x27 = (.bool true) := h27
      subst hF
      go_wp2_with (fail)
      exact ⟨rfl, rfl, (Below.refl _ _), rfl⟩
  intro uF W1 hC' hU aF hF
  have hCW1 : Below v.heap.size v W1 := hC'
  clear hC'
  have h28 : (Det (.bool true)) (uF 19) W1 := hU.2.2.2.2.2.2.2.2.2.2.2.2.2.2.2.2.2.2.2.1
  clear hU
  simp only [puts, Act.put, List.setIfInBounds_toArray, List.set_cons_zero, List.set_cons_succ] at hF
  generalize uF 0 = x9 at hF
  generalize uF 1 = x10 at hF
  generalize uF 2 = x11 at hF
  generalize uF 3 = x12 at hF
  generalize uF 4 = x13 at hF
  generalize uF 5 = x14 at hF
  generalize uF 6 = x15 at hF
  generalize uF 7 = x16 at hF
  generalize uF 8 = x17 at hF
  generalize uF 9 = x18 at hF
  generalize uF 10 = x19 at hF
  generalize uF 11 = x20 at hF
  generalize uF 12 = x21 at hF
  generalize uF 13 = x22 at hF
  generalize uF 14 = x23 at hF
  generalize uF 15 = x24 at hF
  generalize uF 16 = x25 at hF
  generalize uF 17 = x26 at hF
  generalize uF 18 = x27 at hF
  generalize uF 19 = x28 at h28 hF
  obtain rfl : x28 = (.bool true) := h28
  subst hF
  have hz1 := hCW1.size
  go_wp2_with (first
    | (go_at_call 34; refine (rejects_c 12 W1).mono ?_; rintro e w3 ⟨g, rfl, hg, q3, hb3⟩; have b63 := (HB6.out.below hCW1 HB6.out.lt).below hb3 (Nat.lt_of_lt_of_le HB6.out.lt hCW1.size); have hw3 := (hbv.trans (hCW1.mono hz)).trans (hb3.mono (by omega)); have hz3 := hb3.size)
    | ((with_reducible show wpList _ _ _ (Oper.mk none (Op.store 42 (.tmp 6) (.tmp 29)) _ _ _ _ :: _) _ _); refine wpList_store_whole rfl 42 (.tmp 6) (.tmp 29) rfl g6 rfl [.slice (some ⟨g, 0, none⟩) 1 1, .bool false, .bool false] rfl aggSt rfl _ _ b63 rfl (by simp [Value.oneCell']) ?_; intro w8 b8 g8 s8))
  refine bodyPost_ret (results_cell_one rfl _ g6 _ #[.slice (some ⟨g, 0, none⟩) 1 1, .bool false, .bool false] aggSt rfl rfl b8) rfl ⟨⟨g, rfl, by omega, q3.grown g8 (by simp; omega)⟩, ?_, ?_⟩
  · exact ((H.out.below hCW1).below hb3).step b63 g8
  · exact hw3.grown g8 (by omega) (fun k hk => by cases hk; omega)

/-! ## What a session is, what it leads to -/
/-- A session's state: the state, how often it was greeted, the next number, the challenge. -/
structure Sst where
  st : Int
  gr : Nat
  nx : Int
  ch : List UInt8
/-- What a frame leads to. -/
structure Out where
  has : Bool
  k : Int
  n : Int
  x : Int
  bs : List UInt8
  drew : Bool
  taken : Bool
def Out.rej (x : Int) : Out := ⟨true, 7, 0, x, [], false, false⟩
def Out.none : Out := ⟨false, 0, 0, 0, [], false, false⟩
/-- What a session does with a frame. -/
def hnd (init : Int) (th ou : List UInt8) (s : Sst) (k n : Int) (ds dr : List UInt8) : Sst × Out :=
  if k = 1 then
    if n = init ∧ 16 ≤ ds.length ∧ ds.length ≤ 64 then (⟨1, s.gr + 1, s.nx, dr⟩, ⟨true, 2, (((s.gr + 1) % 256 : Nat) : Int), 0, dr ++ ansOf (((s.gr + 1) % 256 : Nat) : Int) ou ds, true, false⟩)
    else (s, Out.rej 12)
  else if k = 3 then
    if s.st = 1 then
      if (ansOf ((s.gr % 256 : Nat) : Int) th s.ch == ds) = true then (⟨2, s.gr, 1, s.ch⟩, ⟨true, 4, 0, 0, [], false, false⟩) else (⟨0, s.gr, s.nx, s.ch⟩, Out.rej 12)
    else (s, Out.rej 12)
  else if k = 5 then
    if s.st = 2 then
      if n = s.nx then (⟨2, s.gr, s.nx + 1, s.ch⟩, ⟨false, 0, 0, 0, [], false, true⟩) else (s, Out.rej 13)
    else (s, Out.rej 12)
  else if k = 8 then (⟨0, s.gr, s.nx, s.ch⟩, Out.none)
  else (s, Out.rej 10)
/-- A step's value. -/
def StepV (w : World) (base : Nat) (o : Out) (v : Value) : Prop :=
  (o.has = true ∧ ∃ g A c, v = .agg #[.slice (some ⟨g, 0, none⟩) 1 1, .bool o.drew, .bool o.taken] ∧ base ≤ g ∧ Blk w g 36 #[.int .i64 o.k, .int .i64 o.n, .int .i64 o.x, .slice A o.bs.length c] ∧ OwB w base A o.bs.length c o.bs)
  ∨ (o.has = false ∧ v = .agg #[.slice none 0 0, .bool o.drew, .bool o.taken])
def HP (w : World) (base gs : Nat) (init : Int) (th ou : List UInt8) (r : Sst × Out) (e : Ending) (w' : World) : Prop :=
  ∃ v, e = .returned v ∧ StepV w' w.heap.size r.2 v ∧ Se w' base gs init th ou r.1.st (r.1.gr : Int) r.1.ch r.1.nx ∧ Below base w w' ∧ Fr [gs] w w'
theorem StepV.cells {w : World} {base : Nat} {o : Out} {v : Value} (h : StepV w base o v) : ∃ A n c d t, v = .agg #[.slice A n c, .bool d, .bool t] := by
  rcases h with ⟨_, g, A, c, rfl, _⟩ | ⟨_, rfl⟩ <;> exact ⟨_, _, _, _, _, rfl⟩
theorem own_none (w : World) (base : Nat) : OwB w base none 0 0 [] := Row.nil _ _ _ _ _
theorem HP.wide {w v w2 w8 : World} {base gs g6 : Nat} {init : Int} {th ou : List UInt8} {r : Sst × Out} {e : Ending} {cs : Array Value} (h : HP v base gs init th ou r e w2) (hb : Below w.heap.size w v) (hbw : base ≤ w.heap.size) (h6 : w.heap.size ≤ g6) (h6v : g6 < v.heap.size) (hb6 : Blk w2 g6 42 cs) (hg : w2.grownBy w8 (some g6)) : HP w base gs init th ou r e w8 := by
  obtain ⟨s, rfl, h1, h2, h3, h4⟩ := h
  have hz := hb.size
  refine ⟨s, rfl, ?_, h2.step hb6 hg, ((hb.mono hbw).trans h3).grown hg (by have := h4.1; omega) (fun k hk => by cases hk; omega), ((Fr.below hb).trans h4).grown hg (.inr h6)⟩
  rcases h1 with ⟨ha, g, A, c, e, a1, a2, a3⟩ | ⟨ha, e⟩
  · exact .inl ⟨ha, g, A, c, e, by omega, a2.grown hg (by simp; omega), Row.base_le (row_gone2 a3 hb6 hg) hz⟩
  · exact .inr ⟨ha, e⟩
theorem HP.of {w w' : World} {base gs : Nat} {init : Int} {th ou : List UInt8} {r : Sst × Out} {e : Ending} (v : Value) (he : e = .returned v) (hv : StepV w' w.heap.size r.2 v) (hs : Se w' base gs init th ou r.1.st (r.1.gr : Int) r.1.ch r.1.nx) (hb : Below base w w') (hf : Fr [gs] w w') : HP w base gs init th ou r e w' := ⟨v, he, hv, hs, hb, hf⟩
section
variable {w : World} {base gs : Nat} {init : Int} {th ou : List UInt8} {s : Sst}
theorem HP.rej {w' : World} {e : Ending} {x : Int} (hs : Se w' base gs init th ou s.st (s.gr : Int) s.ch s.nx) (hbw : base ≤ w.heap.size) (h : ∃ g, e = .returned (.agg #[.slice (some ⟨g, 0, none⟩) 1 1, .bool false, .bool false]) ∧ w.heap.size ≤ g ∧ Blk w' g 36 #[.int .i64 7, .int .i64 0, .int .i64 x, .slice none 0 0]) (hb : Below w.heap.size w w') : HP w base gs init th ou (s, Out.rej x) e w' := by
  obtain ⟨g, rfl, h1, h2⟩ := h
  exact ⟨_, rfl, .inl ⟨rfl, g, none, 0, rfl, h1, h2, own_none _ _⟩, hs, hb.mono hbw, Fr.below hb⟩
/-- A greeting. -/
theorem hello_c (h : Se w base gs init th ou s.st (s.gr : Int) s.ch s.nx) (hgr : s.gr ≤ 1000000) (n x : Int) {ds dr : List UInt8} {A : Option Addr} {m c B : Nat} (hd : SlB w B A m c ds) (hB : B ≤ w.heap.size) (hfar : 0 < m → ∀ b off, A = some ⟨b, off, none⟩ → b ≠ gs) (hou : ou.length ≤ 1048576) (hdr : dr.length = 32) (hbw : base ≤ w.heap.size) :
    Calls Try.prog 31 #[.pointer (some ⟨gs, 0, none⟩), .agg #[.int .i64 1, .int .i64 n, .int .i64 x, .slice A m c], .agg (arr8 dr)] w (HP w base gs init th ou (hnd init th ou s 1 n ds dr)) := by
  have hl := hd.len
  by_cases h1 : n = init
  · by_cases h2 : m < 16
    · rw [hnd, if_pos rfl, if_neg (by omega)]
      exact (hello_no2 (ds := ds) h hdr 1 n x A m c h1 h2).mono fun e w' hh => HP.rej hh.2.1 hbw hh.1 hh.2.2
    · by_cases h3 : 64 < m
      · rw [hnd, if_pos rfl, if_neg (by omega)]
        exact (hello_no3 (ds := ds) h hdr 1 n x A m c h1 h3).mono fun e w' hh => HP.rej hh.2.1 hbw hh.1 hh.2.2
      · rw [hnd, if_pos rfl, if_pos (by omega)]
        subst h1
        refine (hello_ok h hgr 1 x hd hB (hfar (by omega)) (by omega) hou hdr hbw _ rfl).mono fun e w' hh => ?_
        obtain ⟨⟨g, A', c', rfl, a1, a2, a3⟩, a4, a5, a6⟩ := hh
        have e64 : (dr ++ ansOf (((s.gr + 1) % 256 : Nat) : Int) ou ds).length = 64 := by rw [List.length_append, hdr, len_ansOf]
        refine ⟨_, rfl, .inl ⟨rfl, g, A', c', rfl, a1, ?_, ?_⟩, ?_, a5, a6⟩
        · simp only [e64]; exact a2
        · simp only [e64]; exact a3
        · have : (((s.gr + 1 : Nat)) : Int) = (s.gr : Int) + 1 := by omega
          simp only [this]; exact a4
  · rw [hnd, if_pos rfl, if_neg (by omega)]
    exact (hello_no1 (ds := ds) h hdr 1 n x A m c h1).mono fun e w' hh => HP.rej hh.2.1 hbw hh.1 hh.2.2
theorem answer3_c (h : Se w base gs init th ou s.st (s.gr : Int) s.ch s.nx) (n x : Int) {ds dr : List UInt8} {A : Option Addr} {m c B : Nat} (hd : SlB w B A m c ds) (hB : B ≤ w.heap.size) (hth : th.length ≤ 1048576) (hbw : base ≤ w.heap.size) :
    Calls Try.prog 32 #[.pointer (some ⟨gs, 0, none⟩), .agg #[.int .i64 3, .int .i64 n, .int .i64 x, .slice A m c]] w (HP w base gs init th ou (hnd init th ou s 3 n ds dr)) := by
  rw [hnd, if_neg (by omega), if_pos rfl]
  obtain ⟨st, gr, nx, ch⟩ := s
  simp only at h ⊢
  by_cases h1 : st = 1
  · rw [if_pos h1]
    subst h1
    cases hr : (ansOf ((gr % 256 : Nat) : Int) th ch == ds) with
    | true =>
      rw [if_pos rfl]
      refine (answer_in h 3 n x hd hB hth hbw true hr).mono fun e w' hh => ?_
      rw [if_pos rfl] at hh
      obtain ⟨⟨⟨g, rfl, a1, a2⟩, a3⟩, a4, a5⟩ := hh
      exact ⟨_, rfl, .inl ⟨rfl, g, none, 0, rfl, a1, a2, own_none _ _⟩, a3, a4, a5⟩
    | false =>
      rw [if_neg (by simp)]
      refine (answer_in h 3 n x hd hB hth hbw false hr).mono fun e w' hh => ?_
      rw [if_neg (by simp)] at hh
      obtain ⟨⟨⟨g, rfl, a1, a2⟩, a3⟩, a4, a5⟩ := hh
      exact ⟨_, rfl, .inl ⟨rfl, g, none, 0, rfl, a1, a2, own_none _ _⟩, a3, a4, a5⟩
  · rw [if_neg h1]
    exact (answer_out h h1 3 n x A m c).mono fun e w' hh => HP.rej (s := ⟨st, gr, nx, ch⟩) hh.2.1 hbw hh.1 hh.2.2
theorem command5_c (h : Se w base gs init th ou s.st (s.gr : Int) s.ch s.nx) (h0 : 0 ≤ s.nx) (h9 : s.nx ≤ 1000000) (n x : Int) {ds dr : List UInt8} (A : Option Addr) (m c : Nat) (hbw : base ≤ w.heap.size) :
    Calls Try.prog 33 #[.pointer (some ⟨gs, 0, none⟩), .agg #[.int .i64 5, .int .i64 n, .int .i64 x, .slice A m c]] w (HP w base gs init th ou (hnd init th ou s 5 n ds dr)) := by
  rw [hnd, if_neg (by omega), if_neg (by omega), if_pos rfl]
  obtain ⟨st, gr, nx, ch⟩ := s
  simp only at h h0 h9 ⊢
  by_cases h1 : st = 2
  · rw [if_pos h1]
    subst h1
    by_cases h2 : n = nx
    · rw [if_pos h2]
      subst h2
      refine (command_ok (st := 0) h 5 x h0 h9 A m c hbw).mono fun e w' hh => ?_
      exact ⟨_, hh.1, .inr ⟨rfl, rfl⟩, hh.2.1, hh.2.2.1, hh.2.2.2⟩
    · rw [if_neg h2]
      exact (command_order (st := 0) h 5 n x h2 A m c).mono fun e w' hh => HP.rej (s := ⟨2, gr, nx, ch⟩) hh.2.1 hbw hh.1 hh.2.2
  · rw [if_neg h1]
    exact (command_out h h1 5 n x A m c).mono fun e w' hh => HP.rej (s := ⟨st, gr, nx, ch⟩) hh.2.1 hbw hh.1 hh.2.2
theorem rej10_c (h : Se w base gs init th ou s.st (s.gr : Int) s.ch s.nx) (hbw : base ≤ w.heap.size) : Calls Try.prog 34 #[.int .i64 10] w (HP w base gs init th ou (s, Out.rej 10)) :=
  (rejects_c 10 w).mono fun e w' hh => by
    obtain ⟨g, a1, a2, a3, a4⟩ := hh
    exact HP.rej (h.below a4) hbw ⟨g, a1, a2, a3⟩ a4
end

set_option maxHeartbeats 4000000 in
theorem handle1 {w : World} {base gs : Nat} {init : Int} {th ou : List UInt8} {s : Sst} (h : Se w base gs init th ou s.st (s.gr : Int) s.ch s.nx) (n x : Int) {ds dr : List UInt8} {A : Option Addr} {m c B : Nat} (hdr : dr.length = 32) (hbw : base ≤ w.heap.size) (hgr : s.gr ≤ 1000000) (hou : ou.length ≤ 1048576) (hd : SlB w B A m c ds) (hB : B ≤ w.heap.size) (hfar : 0 < m → ∀ b off, A = some ⟨b, off, none⟩ → b ≠ gs) :
    Calls Try.prog 14 #[.pointer (some ⟨gs, 0, none⟩), .agg #[.int .i64 1, .int .i64 n, .int .i64 x, .slice A m c], .agg (arr8 dr)] w (HP w base gs init th ou (hnd init th ou s 1 n ds dr)) := by
  have HD := Lib.hid hd
  clear hd
  obtain ⟨v, hv⟩ : ∃ v, v = ((w.alloc (.cells #[.int .i64 1, .int .i64 n, .int .i64 x, .slice A m c] 36)).alloc (.cells (arr8 dr) 34)).alloc (.cells #[.slice none 0 0, .bool false, .bool false] 42) := ⟨_, rfl⟩
  obtain ⟨g5, hg5⟩ : ∃ g, g = w.heap.size + 1 := ⟨_, rfl⟩
  obtain ⟨g6, hg6⟩ : ∃ g, g = w.heap.size + 1 + 1 := ⟨_, rfl⟩
  have b1 : Blk v w.heap.size 36 #[.int .i64 1, .int .i64 n, .int .i64 x, .slice A m c] := by rw [hv]; exact ((Blk.new _ _ _).alloc _).alloc _
  have b5 : Blk v g5 34 (arr8 dr) := by
    have := (Blk.new (w.alloc (.cells #[.int .i64 1, .int .i64 n, .int .i64 x, .slice A m c] 36)) 34 (arr8 dr)).alloc (.cells #[.slice none 0 0, .bool false, .bool false] 42)
    rw [World.size_alloc] at this
    rw [hv, hg5]; exact this
  have b6 : Blk v g6 42 #[.slice none 0 0, .bool false, .bool false] := by
    have := Blk.new ((w.alloc (.cells #[.int .i64 1, .int .i64 n, .int .i64 x, .slice A m c] 36)).alloc (.cells (arr8 dr) 34)) 42 #[.slice none 0 0, .bool false, .bool false]
    rw [World.size_alloc, World.size_alloc] at this
    rw [hv, hg6]; exact this
  have hbv : Below w.heap.size w v := by rw [hv]; exact (((Below.refl _ _).alloc (Nat.le_refl _) _).alloc (by simp) _).alloc (by simp only [World.size_alloc]; omega) _
  have hz := hbv.size
  have hzv := b6.lt
  have hgs := h.lt
  have hG : w.heap.size < g5 ∧ g5 < g6 := by omega
  have H := Lib.hid (h.below hbv)
  have HV := Lib.hid hv
  have HG5 := Lib.hid hg5
  have HG6 := Lib.hid hg6
  have HB1 := Lib.hid b1
  have HB5 := Lib.hid b5
  have HB6 := Lib.hid b6
  have HDR := Lib.hid hdr
  clear hv b1 b5 b6 hg5 hg6 hdr
  have d1 : v.cell? ⟨w.heap.size, 0, none⟩ = some (.int .i64 1) := by rw [HB1.out.cell]; rfl
  go_enter Try.func14, Try.ntmps14
  go_wp2_with (first
    | ((with_reducible show wpList _ _ _ (Oper.mk (some 6) (Op.alloc _) _ _ _ _ :: _) _ _); refine wpList_alloc_agg rfl 42 rfl #[.slice none 0 0, .bool false, .bool false] zeroSt ?_; simp only [World.size_alloc]; rw [← HV.out, ← HG6.out, ← HG5.out])
    | ((with_reducible show wpList _ _ _ (Oper.mk _ (Op.load 36 (.tmp 4)) _ _ _ _ :: _) _ _); refine wpList_load_whole rfl 36 (.tmp 4) rfl w.heap.size rfl #[.int .i64 1, .int .i64 n, .int .i64 x, .slice A m c] aggFr rfl _ HB1.out ?_)
    | ((with_reducible show wpList _ _ _ (Oper.mk _ (Op.load 34 (.tmp 5)) _ _ _ _ :: _) _ _); refine wpList_load_whole rfl 34 (.tmp 5) rfl g5 rfl (arr8 dr) agg44 (by rw [size_arr8]; exact HDR.out) _ HB5.out ?_)
    | (go_at_call 31; refine (hello_c H.out hgr n x (HD.out.below (hbv.mono hB)) (Nat.le_trans hB hz) hfar hou HDR.out (Nat.le_trans hbw hz)).mono ?_; rintro e w3 ⟨sv, rfl, hh⟩; obtain ⟨A3, n3, c3, d3, t3, rfl⟩ := hh.1.cells; have b63 := hh.2.2.2.blk HB6.out (by simp; omega))
    | ((with_reducible show wpList _ _ _ (Oper.mk none (Op.store 42 (.tmp 6) (.tmp 17)) _ _ _ _ :: _) _ _); refine wpList_store_whole rfl 42 (.tmp 6) (.tmp 17) rfl g6 rfl [.slice A3 n3 c3, .bool d3, .bool t3] rfl aggSt rfl _ _ b63 rfl (by simp [Value.oneCell']) ?_; intro w8 b8 g8 s8))
  refine bodyPost_ret (results_cell_one rfl _ g6 _ #[.slice A3 n3 c3, .bool d3, .bool t3] aggSt rfl rfl b8) rfl ?_
  exact HP.wide (v := v) ⟨_, rfl, hh⟩ hbv hbw (by omega) (by omega) b63 g8

set_option maxHeartbeats 4000000 in
theorem handle3 {w : World} {base gs : Nat} {init : Int} {th ou : List UInt8} {s : Sst} (h : Se w base gs init th ou s.st (s.gr : Int) s.ch s.nx) (n x : Int) {ds dr : List UInt8} {A : Option Addr} {m c B : Nat} (hdr : dr.length = 32) (hbw : base ≤ w.heap.size) (hth : th.length ≤ 1048576) (hd : SlB w B A m c ds) (hB : B ≤ w.heap.size) :
    Calls Try.prog 14 #[.pointer (some ⟨gs, 0, none⟩), .agg #[.int .i64 3, .int .i64 n, .int .i64 x, .slice A m c], .agg (arr8 dr)] w (HP w base gs init th ou (hnd init th ou s 3 n ds dr)) := by
  have HD := Lib.hid hd
  clear hd
  obtain ⟨v, hv⟩ : ∃ v, v = ((w.alloc (.cells #[.int .i64 3, .int .i64 n, .int .i64 x, .slice A m c] 36)).alloc (.cells (arr8 dr) 34)).alloc (.cells #[.slice none 0 0, .bool false, .bool false] 42) := ⟨_, rfl⟩
  obtain ⟨g5, hg5⟩ : ∃ g, g = w.heap.size + 1 := ⟨_, rfl⟩
  obtain ⟨g6, hg6⟩ : ∃ g, g = w.heap.size + 1 + 1 := ⟨_, rfl⟩
  have b1 : Blk v w.heap.size 36 #[.int .i64 3, .int .i64 n, .int .i64 x, .slice A m c] := by rw [hv]; exact ((Blk.new _ _ _).alloc _).alloc _
  have b5 : Blk v g5 34 (arr8 dr) := by
    have := (Blk.new (w.alloc (.cells #[.int .i64 3, .int .i64 n, .int .i64 x, .slice A m c] 36)) 34 (arr8 dr)).alloc (.cells #[.slice none 0 0, .bool false, .bool false] 42)
    rw [World.size_alloc] at this
    rw [hv, hg5]; exact this
  have b6 : Blk v g6 42 #[.slice none 0 0, .bool false, .bool false] := by
    have := Blk.new ((w.alloc (.cells #[.int .i64 3, .int .i64 n, .int .i64 x, .slice A m c] 36)).alloc (.cells (arr8 dr) 34)) 42 #[.slice none 0 0, .bool false, .bool false]
    rw [World.size_alloc, World.size_alloc] at this
    rw [hv, hg6]; exact this
  have hbv : Below w.heap.size w v := by rw [hv]; exact (((Below.refl _ _).alloc (Nat.le_refl _) _).alloc (by simp) _).alloc (by simp only [World.size_alloc]; omega) _
  have hz := hbv.size
  have hzv := b6.lt
  have hgs := h.lt
  have hG : w.heap.size < g5 ∧ g5 < g6 := by omega
  have H := Lib.hid (h.below hbv)
  have HV := Lib.hid hv
  have HG5 := Lib.hid hg5
  have HG6 := Lib.hid hg6
  have HB1 := Lib.hid b1
  have HB5 := Lib.hid b5
  have HB6 := Lib.hid b6
  have HDR := Lib.hid hdr
  clear hv b1 b5 b6 hg5 hg6 hdr
  have d1 : v.cell? ⟨w.heap.size, 0, none⟩ = some (.int .i64 3) := by rw [HB1.out.cell]; rfl
  go_enter Try.func14, Try.ntmps14
  go_wp2_with (first
    | ((with_reducible show wpList _ _ _ (Oper.mk (some 6) (Op.alloc _) _ _ _ _ :: _) _ _); refine wpList_alloc_agg rfl 42 rfl #[.slice none 0 0, .bool false, .bool false] zeroSt ?_; simp only [World.size_alloc]; rw [← HV.out, ← HG6.out, ← HG5.out])
    | ((with_reducible show wpList _ _ _ (Oper.mk _ (Op.load 36 (.tmp 4)) _ _ _ _ :: _) _ _); refine wpList_load_whole rfl 36 (.tmp 4) rfl w.heap.size rfl #[.int .i64 3, .int .i64 n, .int .i64 x, .slice A m c] aggFr rfl _ HB1.out ?_)
    | ((with_reducible show wpList _ _ _ (Oper.mk _ (Op.load 34 (.tmp 5)) _ _ _ _ :: _) _ _); refine wpList_load_whole rfl 34 (.tmp 5) rfl g5 rfl (arr8 dr) agg44 (by rw [size_arr8]; exact HDR.out) _ HB5.out ?_)
    | (go_at_call 32; refine (answer3_c (dr := dr) H.out n x (HD.out.below (hbv.mono hB)) (Nat.le_trans hB hz) hth (Nat.le_trans hbw hz)).mono ?_; rintro e w3 ⟨sv, rfl, hh⟩; obtain ⟨A3, n3, c3, d3, t3, rfl⟩ := hh.1.cells; have b63 := hh.2.2.2.blk HB6.out (by simp; omega))
    | ((with_reducible show wpList _ _ _ (Oper.mk none (Op.store 42 (.tmp 6) (.tmp 22)) _ _ _ _ :: _) _ _); refine wpList_store_whole rfl 42 (.tmp 6) (.tmp 22) rfl g6 rfl [.slice A3 n3 c3, .bool d3, .bool t3] rfl aggSt rfl _ _ b63 rfl (by simp [Value.oneCell']) ?_; intro w8 b8 g8 s8))
  refine bodyPost_ret (results_cell_one rfl _ g6 _ #[.slice A3 n3 c3, .bool d3, .bool t3] aggSt rfl rfl b8) rfl ?_
  exact HP.wide (v := v) ⟨_, rfl, hh⟩ hbv hbw (by omega) (by omega) b63 g8

set_option maxHeartbeats 4000000 in
theorem handle5 {w : World} {base gs : Nat} {init : Int} {th ou : List UInt8} {s : Sst} (h : Se w base gs init th ou s.st (s.gr : Int) s.ch s.nx) (n x : Int) {ds dr : List UInt8} {A : Option Addr} {m c B : Nat} (hdr : dr.length = 32) (hbw : base ≤ w.heap.size) (h0 : 0 ≤ s.nx) (h9 : s.nx ≤ 1000000) :
    Calls Try.prog 14 #[.pointer (some ⟨gs, 0, none⟩), .agg #[.int .i64 5, .int .i64 n, .int .i64 x, .slice A m c], .agg (arr8 dr)] w (HP w base gs init th ou (hnd init th ou s 5 n ds dr)) := by
  obtain ⟨v, hv⟩ : ∃ v, v = ((w.alloc (.cells #[.int .i64 5, .int .i64 n, .int .i64 x, .slice A m c] 36)).alloc (.cells (arr8 dr) 34)).alloc (.cells #[.slice none 0 0, .bool false, .bool false] 42) := ⟨_, rfl⟩
  obtain ⟨g5, hg5⟩ : ∃ g, g = w.heap.size + 1 := ⟨_, rfl⟩
  obtain ⟨g6, hg6⟩ : ∃ g, g = w.heap.size + 1 + 1 := ⟨_, rfl⟩
  have b1 : Blk v w.heap.size 36 #[.int .i64 5, .int .i64 n, .int .i64 x, .slice A m c] := by rw [hv]; exact ((Blk.new _ _ _).alloc _).alloc _
  have b5 : Blk v g5 34 (arr8 dr) := by
    have := (Blk.new (w.alloc (.cells #[.int .i64 5, .int .i64 n, .int .i64 x, .slice A m c] 36)) 34 (arr8 dr)).alloc (.cells #[.slice none 0 0, .bool false, .bool false] 42)
    rw [World.size_alloc] at this
    rw [hv, hg5]; exact this
  have b6 : Blk v g6 42 #[.slice none 0 0, .bool false, .bool false] := by
    have := Blk.new ((w.alloc (.cells #[.int .i64 5, .int .i64 n, .int .i64 x, .slice A m c] 36)).alloc (.cells (arr8 dr) 34)) 42 #[.slice none 0 0, .bool false, .bool false]
    rw [World.size_alloc, World.size_alloc] at this
    rw [hv, hg6]; exact this
  have hbv : Below w.heap.size w v := by rw [hv]; exact (((Below.refl _ _).alloc (Nat.le_refl _) _).alloc (by simp) _).alloc (by simp only [World.size_alloc]; omega) _
  have hz := hbv.size
  have hzv := b6.lt
  have hgs := h.lt
  have hG : w.heap.size < g5 ∧ g5 < g6 := by omega
  have H := Lib.hid (h.below hbv)
  have HV := Lib.hid hv
  have HG5 := Lib.hid hg5
  have HG6 := Lib.hid hg6
  have HB1 := Lib.hid b1
  have HB5 := Lib.hid b5
  have HB6 := Lib.hid b6
  have HDR := Lib.hid hdr
  clear hv b1 b5 b6 hg5 hg6 hdr
  have d1 : v.cell? ⟨w.heap.size, 0, none⟩ = some (.int .i64 5) := by rw [HB1.out.cell]; rfl
  go_enter Try.func14, Try.ntmps14
  go_wp2_with (first
    | ((with_reducible show wpList _ _ _ (Oper.mk (some 6) (Op.alloc _) _ _ _ _ :: _) _ _); refine wpList_alloc_agg rfl 42 rfl #[.slice none 0 0, .bool false, .bool false] zeroSt ?_; simp only [World.size_alloc]; rw [← HV.out, ← HG6.out, ← HG5.out])
    | ((with_reducible show wpList _ _ _ (Oper.mk _ (Op.load 36 (.tmp 4)) _ _ _ _ :: _) _ _); refine wpList_load_whole rfl 36 (.tmp 4) rfl w.heap.size rfl #[.int .i64 5, .int .i64 n, .int .i64 x, .slice A m c] aggFr rfl _ HB1.out ?_)
    | ((with_reducible show wpList _ _ _ (Oper.mk _ (Op.load 34 (.tmp 5)) _ _ _ _ :: _) _ _); refine wpList_load_whole rfl 34 (.tmp 5) rfl g5 rfl (arr8 dr) agg44 (by rw [size_arr8]; exact HDR.out) _ HB5.out ?_)
    | (go_at_call 33; refine (command5_c (ds := ds) (dr := dr) H.out h0 h9 n x A m c (Nat.le_trans hbw hz)).mono ?_; rintro e w3 ⟨sv, rfl, hh⟩; obtain ⟨A3, n3, c3, d3, t3, rfl⟩ := hh.1.cells; have b63 := hh.2.2.2.blk HB6.out (by simp; omega))
    | ((with_reducible show wpList _ _ _ (Oper.mk none (Op.store 42 (.tmp 6) (.tmp 27)) _ _ _ _ :: _) _ _); refine wpList_store_whole rfl 42 (.tmp 6) (.tmp 27) rfl g6 rfl [.slice A3 n3 c3, .bool d3, .bool t3] rfl aggSt rfl _ _ b63 rfl (by simp [Value.oneCell']) ?_; intro w8 b8 g8 s8))
  refine bodyPost_ret (results_cell_one rfl _ g6 _ #[.slice A3 n3 c3, .bool d3, .bool t3] aggSt rfl rfl b8) rfl ?_
  exact HP.wide (v := v) ⟨_, rfl, hh⟩ hbv hbw (by omega) (by omega) b63 g8

set_option maxHeartbeats 4000000 in
theorem handleO {w : World} {base gs : Nat} {init : Int} {th ou : List UInt8} {s : Sst} (h : Se w base gs init th ou s.st (s.gr : Int) s.ch s.nx) (n x : Int) {ds dr : List UInt8} {A : Option Addr} {m c B : Nat} (hdr : dr.length = 32) (hbw : base ≤ w.heap.size) (k : Int) (h1 : k ≠ 1) (h3 : k ≠ 3) (h5 : k ≠ 5) (h8 : k ≠ 8) :
    Calls Try.prog 14 #[.pointer (some ⟨gs, 0, none⟩), .agg #[.int .i64 k, .int .i64 n, .int .i64 x, .slice A m c], .agg (arr8 dr)] w (HP w base gs init th ou (hnd init th ou s k n ds dr)) := by
  have q1 : (k == 1) = false := by simpa using h1
  have q3 : (k == 3) = false := by simpa using h3
  have q5 : (k == 5) = false := by simpa using h5
  have q8 : (k == 8) = false := by simpa using h8
  rw [hnd, if_neg h1, if_neg h3, if_neg h5, if_neg h8]
  clear h1 h3 h5 h8
  obtain ⟨v, hv⟩ : ∃ v, v = ((w.alloc (.cells #[.int .i64 k, .int .i64 n, .int .i64 x, .slice A m c] 36)).alloc (.cells (arr8 dr) 34)).alloc (.cells #[.slice none 0 0, .bool false, .bool false] 42) := ⟨_, rfl⟩
  obtain ⟨g5, hg5⟩ : ∃ g, g = w.heap.size + 1 := ⟨_, rfl⟩
  obtain ⟨g6, hg6⟩ : ∃ g, g = w.heap.size + 1 + 1 := ⟨_, rfl⟩
  have b1 : Blk v w.heap.size 36 #[.int .i64 k, .int .i64 n, .int .i64 x, .slice A m c] := by rw [hv]; exact ((Blk.new _ _ _).alloc _).alloc _
  have b5 : Blk v g5 34 (arr8 dr) := by
    have := (Blk.new (w.alloc (.cells #[.int .i64 k, .int .i64 n, .int .i64 x, .slice A m c] 36)) 34 (arr8 dr)).alloc (.cells #[.slice none 0 0, .bool false, .bool false] 42)
    rw [World.size_alloc] at this
    rw [hv, hg5]; exact this
  have b6 : Blk v g6 42 #[.slice none 0 0, .bool false, .bool false] := by
    have := Blk.new ((w.alloc (.cells #[.int .i64 k, .int .i64 n, .int .i64 x, .slice A m c] 36)).alloc (.cells (arr8 dr) 34)) 42 #[.slice none 0 0, .bool false, .bool false]
    rw [World.size_alloc, World.size_alloc] at this
    rw [hv, hg6]; exact this
  have hbv : Below w.heap.size w v := by rw [hv]; exact (((Below.refl _ _).alloc (Nat.le_refl _) _).alloc (by simp) _).alloc (by simp only [World.size_alloc]; omega) _
  have hz := hbv.size
  have hzv := b6.lt
  have hgs := h.lt
  have hG : w.heap.size < g5 ∧ g5 < g6 := by omega
  have H := Lib.hid (h.below hbv)
  have HV := Lib.hid hv
  have HG5 := Lib.hid hg5
  have HG6 := Lib.hid hg6
  have HB1 := Lib.hid b1
  have HB5 := Lib.hid b5
  have HB6 := Lib.hid b6
  have HDR := Lib.hid hdr
  clear hv b1 b5 b6 hg5 hg6 hdr
  have d1 : v.cell? ⟨w.heap.size, 0, none⟩ = some (.int .i64 k) := by rw [HB1.out.cell]; rfl
  go_enter Try.func14, Try.ntmps14
  go_wp2_with (first
    | ((with_reducible show wpList _ _ _ (Oper.mk (some 6) (Op.alloc _) _ _ _ _ :: _) _ _); refine wpList_alloc_agg rfl 42 rfl #[.slice none 0 0, .bool false, .bool false] zeroSt ?_; simp only [World.size_alloc]; rw [← HV.out, ← HG6.out, ← HG5.out])
    | ((with_reducible show wpList _ _ _ (Oper.mk _ (Op.load 36 (.tmp 4)) _ _ _ _ :: _) _ _); refine wpList_load_whole rfl 36 (.tmp 4) rfl w.heap.size rfl #[.int .i64 k, .int .i64 n, .int .i64 x, .slice A m c] aggFr rfl _ HB1.out ?_)
    | ((with_reducible show wpList _ _ _ (Oper.mk _ (Op.load 34 (.tmp 5)) _ _ _ _ :: _) _ _); refine wpList_load_whole rfl 34 (.tmp 5) rfl g5 rfl (arr8 dr) agg44 (by rw [size_arr8]; exact HDR.out) _ HB5.out ?_)
    | (go_at_call 34; refine (rej10_c H.out (Nat.le_trans hbw hz)).mono ?_; rintro e w3 ⟨sv, rfl, hh⟩; obtain ⟨A3, n3, c3, d3, t3, rfl⟩ := hh.1.cells; have b63 := hh.2.2.2.blk HB6.out (by simp; omega))
    | ((with_reducible show wpList _ _ _ (Oper.mk none (Op.store 42 (.tmp 6) (.tmp 34)) _ _ _ _ :: _) _ _); refine wpList_store_whole rfl 42 (.tmp 6) (.tmp 34) rfl g6 rfl [.slice A3 n3 c3, .bool d3, .bool t3] rfl aggSt rfl _ _ b63 rfl (by simp [Value.oneCell']) ?_; intro w8 b8 g8 s8))
  refine bodyPost_ret (results_cell_one rfl _ g6 _ #[.slice A3 n3 c3, .bool d3, .bool t3] aggSt rfl rfl b8) rfl ?_
  exact HP.wide (v := v) ⟨_, rfl, hh⟩ hbv hbw (by omega) (by omega) b63 g8

set_option maxHeartbeats 4000000 in
theorem handle8 {w : World} {base gs : Nat} {init : Int} {th ou : List UInt8} {s : Sst} (h : Se w base gs init th ou s.st (s.gr : Int) s.ch s.nx) (n x : Int) {ds dr : List UInt8} {A : Option Addr} {m c : Nat} (hdr : dr.length = 32) (hbw : base ≤ w.heap.size) :
    Calls Try.prog 14 #[.pointer (some ⟨gs, 0, none⟩), .agg #[.int .i64 8, .int .i64 n, .int .i64 x, .slice A m c], .agg (arr8 dr)] w (HP w base gs init th ou (hnd init th ou s 8 n ds dr)) := by
  have e8 : hnd init th ou s 8 n ds dr = (⟨0, s.gr, s.nx, s.ch⟩, Out.none) := by rw [hnd, if_neg (by omega), if_neg (by omega), if_neg (by omega), if_pos rfl]
  rw [e8]
  clear e8
  obtain ⟨v, hv⟩ : ∃ v, v = ((w.alloc (.cells #[.int .i64 8, .int .i64 n, .int .i64 x, .slice A m c] 36)).alloc (.cells (arr8 dr) 34)).alloc (.cells #[.slice none 0 0, .bool false, .bool false] 42) := ⟨_, rfl⟩
  obtain ⟨g5, hg5⟩ : ∃ g, g = w.heap.size + 1 := ⟨_, rfl⟩
  obtain ⟨g6, hg6⟩ : ∃ g, g = w.heap.size + 1 + 1 := ⟨_, rfl⟩
  have b1 : Blk v w.heap.size 36 #[.int .i64 8, .int .i64 n, .int .i64 x, .slice A m c] := by rw [hv]; exact ((Blk.new _ _ _).alloc _).alloc _
  have b5 : Blk v g5 34 (arr8 dr) := by
    have := (Blk.new (w.alloc (.cells #[.int .i64 8, .int .i64 n, .int .i64 x, .slice A m c] 36)) 34 (arr8 dr)).alloc (.cells #[.slice none 0 0, .bool false, .bool false] 42)
    rw [World.size_alloc] at this
    rw [hv, hg5]; exact this
  have b6 : Blk v g6 42 #[.slice none 0 0, .bool false, .bool false] := by
    have := Blk.new ((w.alloc (.cells #[.int .i64 8, .int .i64 n, .int .i64 x, .slice A m c] 36)).alloc (.cells (arr8 dr) 34)) 42 #[.slice none 0 0, .bool false, .bool false]
    rw [World.size_alloc, World.size_alloc] at this
    rw [hv, hg6]; exact this
  have hbv : Below w.heap.size w v := by rw [hv]; exact (((Below.refl _ _).alloc (Nat.le_refl _) _).alloc (by simp) _).alloc (by simp only [World.size_alloc]; omega) _
  have hz := hbv.size
  have hzv := b6.lt
  have hgs := h.lt
  have hG : w.heap.size < g5 ∧ g5 < g6 := by omega
  have H := Lib.hid (h.below hbv)
  have HV := Lib.hid hv
  have HG5 := Lib.hid hg5
  have HG6 := Lib.hid hg6
  have HB1 := Lib.hid b1
  have HB5 := Lib.hid b5
  have HB6 := Lib.hid b6
  have HDR := Lib.hid hdr
  clear hv b1 b5 b6 hg5 hg6 hdr
  have d1 : v.cell? ⟨w.heap.size, 0, none⟩ = some (.int .i64 8) := by rw [HB1.out.cell]; rfl
  have d4 := H.out.c4
  have f4 := H.out.fz 4
  obtain ⟨V6, hV6⟩ : ∃ V6, V6 = v.setCell ⟨gs, 4, none⟩ (.int .i64 0) := ⟨_, rfl⟩
  have h6 := H.out.setSt 0
  rw [← hV6] at h6
  have b66 : Blk V6 g6 42 #[.slice none 0 0, .bool false, .bool false] := by rw [hV6]; exact HB6.out.far (by show g6 ≠ gs; omega) _
  have hw6 : Below base w V6 := by rw [hV6]; exact (hbv.mono hbw).setCell (p := ⟨gs, 4, none⟩) h.hb _
  have HF6 := Lib.hid (show Fr [gs] w V6 by rw [hV6]; exact (Fr.below hbv).grown (grownBy_setCell _ gs 4 _) (.inl (by simp)))
  have HV6 := Lib.hid hV6
  have H6 := Lib.hid h6
  have HB66 := Lib.hid b66
  have hB := buildStZ
  clear h6 hV6 b66
  go_enter Try.func14, Try.ntmps14
  go_wp2_with (first
    | ((with_reducible show wpList _ _ _ (Oper.mk (some 6) (Op.alloc _) _ _ _ _ :: _) _ _); refine wpList_alloc_agg rfl 42 rfl #[.slice none 0 0, .bool false, .bool false] zeroSt ?_; simp only [World.size_alloc]; rw [← HV.out, ← HG6.out, ← HG5.out])
    | ((with_reducible show wpList _ _ _ (Oper.mk none (Op.store 42 (.tmp 6) (.tmp 33)) _ _ _ _ :: _) _ _); rw [← HV6.out]; refine wpList_store_whole rfl 42 (.tmp 6) (.tmp 33) rfl g6 rfl [.slice none 0 0, .bool false, .bool false] rfl aggSt rfl _ _ HB66.out rfl (by simp [Value.oneCell']) ?_; intro w8 b8 g8 s8))
  refine bodyPost_ret (results_cell_one rfl _ g6 _ #[.slice none 0 0, .bool false, .bool false] aggSt rfl rfl b8) rfl ?_
  refine ⟨_, rfl, .inr ⟨rfl, rfl⟩, H6.out.step HB66.out g8, ?_, HF6.out.grown g8 (.inr (by omega))⟩
  exact hw6.grown g8 (by have := hw6.size; omega) (fun k hk => by cases hk; omega)

set_option maxHeartbeats 4000000 in
theorem handle_nil {w : World} (k n x : Int) {dr : List UInt8} (A : Option Addr) (m c : Nat) :
    Calls Try.prog 14 #[.pointer none, .agg #[.int .i64 k, .int .i64 n, .int .i64 x, .slice A m c], .agg (arr8 dr)] w fun e w' => e = .returned (.agg #[.slice none 0 0, .bool false, .bool false]) ∧ Below w.heap.size w w' := by
  obtain ⟨v, hv⟩ : ∃ v, v = ((w.alloc (.cells #[.int .i64 k, .int .i64 n, .int .i64 x, .slice A m c] 36)).alloc (.cells (arr8 dr) 34)).alloc (.cells #[.slice none 0 0, .bool false, .bool false] 42) := ⟨_, rfl⟩
  obtain ⟨g5, hg5⟩ : ∃ g, g = w.heap.size + 1 := ⟨_, rfl⟩
  obtain ⟨g6, hg6⟩ : ∃ g, g = w.heap.size + 1 + 1 := ⟨_, rfl⟩
  have b1 : Blk v w.heap.size 36 #[.int .i64 k, .int .i64 n, .int .i64 x, .slice A m c] := by rw [hv]; exact ((Blk.new _ _ _).alloc _).alloc _
  have b5 : Blk v g5 34 (arr8 dr) := by
    have := (Blk.new (w.alloc (.cells #[.int .i64 k, .int .i64 n, .int .i64 x, .slice A m c] 36)) 34 (arr8 dr)).alloc (.cells #[.slice none 0 0, .bool false, .bool false] 42)
    rw [World.size_alloc] at this
    rw [hv, hg5]; exact this
  have b6 : Blk v g6 42 #[.slice none 0 0, .bool false, .bool false] := by
    have := Blk.new ((w.alloc (.cells #[.int .i64 k, .int .i64 n, .int .i64 x, .slice A m c] 36)).alloc (.cells (arr8 dr) 34)) 42 #[.slice none 0 0, .bool false, .bool false]
    rw [World.size_alloc, World.size_alloc] at this
    rw [hv, hg6]; exact this
  have hbv : Below w.heap.size w v := by rw [hv]; exact (((Below.refl _ _).alloc (Nat.le_refl _) _).alloc (by simp) _).alloc (by simp only [World.size_alloc]; omega) _
  have hz := hbv.size
  have hzv := b6.lt
  have hG : w.heap.size < g5 ∧ g5 < g6 := by omega
  have HV := Lib.hid hv
  have HG5 := Lib.hid hg5
  have HG6 := Lib.hid hg6
  have HB1 := Lib.hid b1
  have HB5 := Lib.hid b5
  have HB6 := Lib.hid b6
  clear hv b1 b5 b6 hg5 hg6
  have hB := buildStZ
  go_enter Try.func14, Try.ntmps14
  go_wp2_with (first
    | ((with_reducible show wpList _ _ _ (Oper.mk (some 6) (Op.alloc _) _ _ _ _ :: _) _ _); refine wpList_alloc_agg rfl 42 rfl #[.slice none 0 0, .bool false, .bool false] zeroSt ?_; simp only [World.size_alloc]; rw [← HV.out, ← HG6.out, ← HG5.out])
    | ((with_reducible show wpList _ _ _ (Oper.mk none (Op.store 42 (.tmp 6) (.tmp 9)) _ _ _ _ :: _) _ _); refine wpList_store_whole rfl 42 (.tmp 6) (.tmp 9) rfl g6 rfl [.slice none 0 0, .bool false, .bool false] rfl aggSt rfl _ _ HB6.out rfl (by simp [Value.oneCell']) ?_; intro w8 b8 g8 s8))
  exact bodyPost_ret (results_cell_one rfl _ g6 _ #[.slice none 0 0, .bool false, .bool false] aggSt rfl rfl b8) rfl ⟨rfl, hbv.grown g8 (by omega) (fun k hk => by cases hk; omega)⟩
/-- A session, any frame. -/
theorem handle_c {w : World} {base gs : Nat} {init : Int} {th ou : List UInt8} {s : Sst} (h : Se w base gs init th ou s.st (s.gr : Int) s.ch s.nx) (k n x : Int) {ds dr : List UInt8} {A : Option Addr} {m c B : Nat} (hdr : dr.length = 32) (hbw : base ≤ w.heap.size) (hgr : s.gr ≤ 1000000) (h0 : 0 ≤ s.nx) (h9 : s.nx ≤ 1000000) (hth : th.length ≤ 1048576) (hou : ou.length ≤ 1048576) (hd : SlB w B A m c ds) (hB : B ≤ w.heap.size) (hfar : 0 < m → ∀ b off, A = some ⟨b, off, none⟩ → b ≠ gs) :
    Calls Try.prog 14 #[.pointer (some ⟨gs, 0, none⟩), .agg #[.int .i64 k, .int .i64 n, .int .i64 x, .slice A m c], .agg (arr8 dr)] w (HP w base gs init th ou (hnd init th ou s k n ds dr)) := by
  by_cases h1 : k = 1
  · subst h1; exact handle1 h n x hdr hbw hgr hou hd hB hfar
  by_cases h3 : k = 3
  · subst h3; exact handle3 h n x hdr hbw hth hd hB
  by_cases h5 : k = 5
  · subst h5; exact handle5 (B := B) h n x hdr hbw h0 h9
  by_cases h8 : k = 8
  · subst h8; exact handle8 h n x hdr hbw
  exact handleO (B := B) h n x hdr hbw k h1 h3 h5 h8
end Go.Proofs.Ytiadfbcdopfibaa

