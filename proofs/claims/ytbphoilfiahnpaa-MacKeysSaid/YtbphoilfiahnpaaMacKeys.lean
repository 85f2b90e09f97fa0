/-
  MacKeys: a long key has the tags of its digest; a short key's piece begins with it.
-/
import Derived.Test.YtbphoilfiahnpaaMacUse
namespace Go.Proofs.Ytbphoilfiahnpaa.macKeys
open Go.RowKit
set_option linter.unusedVariables false
set_option linter.unusedSimpArgs false
set_option maxRecDepth 100000

set_option maxHeartbeats 2000000 in
theorem walk (A0 : Option Addr) (n0 c0 : Nat) (bs0 : List UInt8) (A1 : Option Addr) (n1 c1 : Nat) (bs1 : List UInt8) (w : World) (w0 : SlB w w.heap.size A0 n0 c0 bs0) (y0 : c0 ≤ 140737488351232) (w1 : SlB w w.heap.size A1 n1 c1 bs1) (y1 : c1 ≤ 140737488351232) :
    Calls Try.prog 16 #[.slice A0 n0 c0, .slice A1 n1 c1] w fun e w' => e = .returned (.bool true) ∧ Below w.heap.size w w' := by
  have hnb0 : n0 ≤ 140737488351232 := Nat.le_trans w0.le y0
  have hnb1 : n1 ≤ 140737488351232 := Nat.le_trans w1.le y1
  by_cases hbig : 4096 < n0 + n1
  · go_enter Try.func16, Try.ntmps16
    go_wp2_with (go_at_call 38; refine (large2_c w0 w1 true (decide_eq_true hbig) hnb0 hnb1).mono ?_; rintro e w2 ⟨rfl, rfl⟩)
    go_ret
    exact ⟨rfl, (Below.refl _ _).alloc (Nat.le_refl _) _⟩
  · have hlarge := large2_c w0 w1 false (decide_eq_false hbig) hnb0 hnb1
    have hb1 : Below w.heap.size w (w.alloc (.cells #[.slice A0 n0 c0, .slice A1 n1 c1] 31)) := (Below.refl _ _).alloc (Nat.le_refl _) _
    obtain ⟨v1, hv1⟩ : ∃ v1, v1 = w.alloc (.cells #[.slice A0 n0 c0, .slice A1 n1 c1] 31) := ⟨_, rfl⟩
    rw [← hv1] at hb1 hlarge
    have HV := Lib.hid hv1
    have W0 := Lib.hid w0
    have W1 := Lib.hid w1
    have hz1 := hb1.size
    have hh0 := w0.below hb1
    have hl0 := Lib.hid w0.len
    have hl1 := Lib.hid w1.len
    clear hv1 w0 w1
    have h10 : OwB (v1.alloc (.cells #[] 5)) v1.heap.size (some ⟨v1.heap.size, 0, none⟩) 0 0 [] := OwB.nil _ _ _
    have hb10 : Below v1.heap.size v1 (v1.alloc (.cells #[] 5)) := (Below.refl _ _).alloc (Nat.le_refl _) _
    have h11 := hh0.alloc hz1 (.cells #[] 5)
    by_cases hshort : n0 ≤ 64
    all_goals
      go_enter Try.func16, Try.ntmps16
      go_wp2_with (first
        | (go_at_call 38; rw [← HV.out]; refine hlarge.mono ?_; rintro e w2 ⟨rfl, rfl⟩)
        | (at_builtin; refine wpList_append8 rfl (.tmp 11) (.tmp 12) rfl rfl h10 rfl h11 (by omega) (by simp) n0 (by omega) ?_; intro A2 c2 v2 h2 q2; have hb2 : Below v1.heap.size v1 v2 := q2.below h10 hb10 (Nat.le_refl _) (by simp); have hz2 := hb2.size)
        | (go_at_call 39; refine (key_c h2.sl (Nat.le_refl _) (by omega)).mono ?_; rintro e v3 ⟨rfl, hb3⟩; have b4 := Blk.new v3 34 (arr8 (z8' 64)); rw [List.nil_append])
        | ((with_reducible show wpList _ _ _ (Oper.mk _ (Op.alloc 34) _ _ _ _ :: _) _ _); refine wpList_alloc_agg rfl 34 rfl (arr8 (z8' 64)) zeroP34 ?_; (try rw [World.size_alloc]))
        | ((with_reducible show wpList _ _ _ (Oper.mk none (Op.store 34 _ _) _ _ _ _ :: _) _ _); refine wpList_store8 rfl 34 (.tmp 5) (.tmp 14) rfl v3.heap.size rfl (keyPiece bs0) rfl aggP64 (len_keyPiece _) _ _ b4 (by rw [size_arr8, len_z8']) ?_; intro v5 hb5 hg5 hs5; have h25 : Below v2.heap.size v2 v5 := (hb3.alloc hb3.size _).grown hg5 (Nat.le_trans hb3.size (by simp)) (fun k hk => by cases hk; exact hb3.size); have h15 := hb2.trans (h25.mono hz2); have hw5 := hb1.trans (h15.mono hz1); have hz5 := hw5.size; have hk5 := W0.out.below hw5; have ht5 := W1.out.below hw5; clear hs5 hg5)
        | (go_at_call 34; refine (refof_c hk5 hz5 (by omega)).mono ?_; rintro e v6 ⟨rfl, hb6⟩; have b7 := Blk.new v6 44 (arr8 (z8' 32)))
        | ((with_reducible show wpList _ _ _ (Oper.mk _ (Op.alloc 44) _ _ _ _ :: _) _ _); refine wpList_alloc_agg rfl 44 rfl (arr8 (z8' 32)) zero44 ?_; (try rw [World.size_alloc]))
        | ((with_reducible show wpList _ _ _ (Oper.mk none (Op.store 44 _ _) _ _ _ _ :: _) _ _); refine wpList_store8 rfl 44 (.tmp 6) (.tmp 43) rfl v6.heap.size rfl (sha bs0) rfl agg44 (len_sha _) _ _ b7 (by rw [size_arr8, len_z8']) ?_; intro v8 hb8 hg8 hs8; have h58 : Below v5.heap.size v5 v8 := (hb6.alloc hb6.size _).grown hg8 (Nat.le_trans hb6.size (by simp)) (fun k hk => by cases hk; exact hb6.size); clear hs8 hg8; simp only [Act.put, List.setIfInBounds_toArray, List.set_cons_succ, List.set_cons_zero]))
    · have hl1' : bs1.length ≤ 4096 := by rw [hl1.out]; omega
      have hp0 : SlB v5 v5.heap.size (some ⟨v3.heap.size, 0, none⟩) n0 64 bs0 := by
        have := SlB.ofBlk hb5 (lo := 0) (hi := n0) (c := 64) (B := v5.heap.size) (by omega) (by rw [len_keyPiece]; exact hshort) (by omega) (by simp [maxLen]) hb5.lt
        rw [List.drop_zero, Nat.sub_zero] at this
        have e := piece_take (k := bs0) (by rw [hl0.out]; exact hshort)
        rw [hl0.out] at e
        rwa [e] at this
      have hpf : SlB v5 v5.heap.size (some ⟨v3.heap.size, 0, none⟩) 64 64 (keyPiece bs0) := by
        have := SlB.ofBlk hb5 (lo := 0) (hi := 64) (c := 64) (B := v5.heap.size) (by omega) (Nat.le_of_eq (len_keyPiece _).symm) (by omega) (by simp [maxLen]) hb5.lt
        rwa [List.drop_zero, List.take_of_length_le (Nat.le_of_eq (len_keyPiece _))] at this
      have hsame : hmac (keyPiece bs0) bs1 = hmac bs0 bs1 := hmac_of_piece (piece_piece bs0) bs1
      have HS := Lib.hid hsame
      have HH := Lib.hid hh0
      clear hsame h2 q2 hb2 hb3 b4 hh0 h10 hb10 h11 h25 h15 hlarge hz2
      refine wp_region_rel (fun W W' => Below W.heap.size W W') (fun W => Below v5.heap.size v5 W)
        [RelB 1 [7], Det (.agg (arr8 (keyPiece [7]))), Det (.agg (arr8 (keyPiece [7]))), Det (.bool true), Det (.bool true), Det (.slice A0 n0 c0), Det (.int .i64 (n0 : Int)), Det (.slice (some ⟨v3.heap.size, 0, none⟩) n0 64), Det (.string ⟨bs0.toArray⟩), Det (.slice A0 n0 c0), Det (.string ⟨bs0.toArray⟩), Det (.bool true), Det (.bool true), Det (.bool true), Det (.slice A0 n0 c0), Det (.slice A1 n1 c1), RelP 1 [bs1], Det (.agg (arr8 (hmac bs0 bs1))), Det (.slice (some ⟨v3.heap.size, 0, none⟩) 64 64), Det (.slice A1 n1 c1), RelP 1 [bs1], Det (.agg (arr8 (hmac bs0 bs1))), Det (.bool true), Det (.bool true), Det (.bool true)]
        [[], [(0, some 18)], [], [(1, some 19), (2, some 20)], [(3, some 21)], [(4, some 22)], [(5, some 23), (4, some 22)], [(6, some 24), (4, some 22)], [(7, some 25), (4, some 22)], [(4, some 22)], [(9, some 27), (4, some 22)], [(8, some 26), (10, some 28), (4, some 22)], [(4, some 22), (11, some 29)], [(12, some 30)], [(13, some 31)], [(13, some 31)], [(15, some 33), (13, some 31)], [(14, some 32), (16, some 34), (13, some 31)], [(13, some 31)], [(13, some 31)], [(19, some 37), (13, some 31)], [(18, some 36), (20, some 38), (13, some 31)], [(17, some 35), (21, some 39), (13, some 31)], [(13, some 31), (22, some 40)], [(23, some 41)]]
        [[], [0], [], [0, 1, 2], [0, 1, 2, 3], [0, 1, 2, 3, 4], [0, 1, 2, 3, 4, 5], [0, 1, 2, 3, 4, 5, 6], [0, 1, 2, 3, 4, 5, 6, 7], [0, 1, 2, 3, 4], [0, 1, 2, 3, 4, 9], [0, 1, 2, 3, 4, 5, 6, 7, 8, 9, 10], [0, 1, 2, 3, 4, 5, 6, 7, 8, 9, 10, 11], [0, 1, 2, 3, 4, 5, 6, 7, 8, 9, 10, 11, 12], [0, 1, 2, 3, 4, 5, 6, 7, 8, 9, 10, 11, 12, 13], [0, 1, 2, 3, 4, 5, 6, 7, 8, 9, 10, 11, 12, 13], [0, 1, 2, 3, 4, 5, 6, 7, 8, 9, 10, 11, 12, 13, 15], [0, 1, 2, 3, 4, 5, 6, 7, 8, 9, 10, 11, 12, 13, 14, 15, 16], [0, 1, 2, 3, 4, 5, 6, 7, 8, 9, 10, 11, 12, 13], [0, 1, 2, 3, 4, 5, 6, 7, 8, 9, 10, 11, 12, 13], [0, 1, 2, 3, 4, 5, 6, 7, 8, 9, 10, 11, 12, 13, 19], [0, 1, 2, 3, 4, 5, 6, 7, 8, 9, 10, 11, 12, 13, 14, 15, 16, 17, 18, 19, 20], [0, 1, 2, 3, 4, 5, 6, 7, 8, 9, 10, 11, 12, 13, 14, 15, 16, 17, 18, 19, 20, 21], [0, 1, 2, 3, 4, 5, 6, 7, 8, 9, 10, 11, 12, 13, 14, 15, 16, 17, 18, 19, 20, 21, 22], [0, 1, 2, 3, 4, 5, 6, 7, 8, 9, 10, 11, 12, 13, 14, 15, 16, 17, 18, 19, 20, 21, 22, 23]]
        [(0, some 18), (1, some 19), (2, some 20), (3, some 21), (4, some 22), (5, some 23), (6, some 24), (7, some 25), (8, some 26), (9, some 27), (10, some 28), (11, some 29), (12, some 30), (13, some 31), (14, some 32), (15, some 33), (16, some 34), (17, some 35), (18, some 36), (19, some 37), (20, some 38), (21, some 39), (22, some 40), (23, some 41), (24, some 4)] (by kernel_rfl) (by kernel_rfl) (fun W W' h1 h2 => h1.trans (h2.mono h1.size)) ((Below.refl _ _).drew) ?_ ?_ ?_
      · exact (AllMono.cons RelB.later (AllMono.cons Det.later (AllMono.cons Det.later (AllMono.cons Det.later (AllMono.cons Det.later (AllMono.cons Det.later (AllMono.cons Det.later (AllMono.cons Det.later (AllMono.cons Det.later (AllMono.cons Det.later (AllMono.cons Det.later (AllMono.cons Det.later (AllMono.cons Det.later (AllMono.cons Det.later (AllMono.cons Det.later (AllMono.cons Det.later (AllMono.cons RelP.later (AllMono.cons Det.later (AllMono.cons Det.later (AllMono.cons Det.later (AllMono.cons RelP.later (AllMono.cons Det.later (AllMono.cons Det.later (AllMono.cons Det.later (AllMono.cons Det.later AllMono.nil)))))))))))))))))))))))))
      · refine AllOb.cons ?_ (AllOb.cons ?_ (AllOb.cons ?_ (AllOb.cons ?_ (AllOb.cons ?_ (AllOb.cons ?_ (AllOb.cons ?_ (AllOb.cons ?_ (AllOb.cons ?_ (AllOb.cons ?_ (AllOb.cons ?_ (AllOb.cons ?_ (AllOb.cons ?_ (AllOb.cons ?_ (AllOb.cons ?_ (AllOb.cons ?_ (AllOb.cons ?_ (AllOb.cons ?_ (AllOb.cons ?_ (AllOb.cons ?_ (AllOb.cons ?_ (AllOb.cons ?_ (AllOb.cons ?_ (AllOb.cons ?_ (AllOb.cons ?_ (AllOb.nil)))))))))))))))))))))))))
        · intro u W hC' hu a ha
          have hC : Below v5.heap.size v5 W := hC'
          clear hC'
          simp only [puts] at ha
          subst ha
          go_wp2_with (fail)
          exact ⟨rfl, rfl, (below_alloc _ _), RelB.new _ [7] 1 rfl (by simp [maxLen]) rfl⟩
        · intro u W hC' hu a ha
          have hC : Below v5.heap.size v5 W := hC'
          clear hC'
          have h18 : (RelB 1 [7]) (u 0) W := hu.1
          clear hu
          simp only [puts, Act.put, List.setIfInBounds_toArray, List.set_cons_zero, List.set_cons_succ] at ha
          generalize u 0 = x18 at h18 ha
          obtain ⟨A18, c18, rfl, s18⟩ := h18
          subst ha
          go_wp2_with ((go_at_call 39; refine (key_c s18 (Nat.le_refl _) (by omega)).mono ?_; rintro e W1 ⟨rfl, hb⟩))
          exact ⟨rfl, rfl, hb, rfl⟩
        · intro u W hC' hu a ha
          have hC : Below v5.heap.size v5 W := hC'
          clear hC'
          simp only [puts] at ha
          subst ha
          go_wp2_with (((with_reducible show wpList _ _ _ (Oper.mk _ (Op.build 34 _) _ _ _ _ :: _) _ _); refine wpList_build (by rfl) 34 _ rfl #[(0, .int .u8 7)] rfl (.agg (arr8 (keyPiece [7]))) build_seven ?_))
          exact ⟨rfl, rfl, (Below.refl _ _), rfl⟩
        · intro u W hC' hu a ha
          have hC : Below v5.heap.size v5 W := hC'
          clear hC'
          have h19 : (Det (.agg (arr8 (keyPiece [7])))) (u 1) W := hu.1
          have h20 : (Det (.agg (arr8 (keyPiece [7])))) (u 2) W := hu.2.1
          clear hu
          simp only [puts, Act.put, List.setIfInBounds_toArray, List.set_cons_zero, List.set_cons_succ] at ha
          generalize u 1 = x19 at h19 ha
          generalize u 2 = x20 at h20 ha
          obtain rfl : x19 = (.agg (arr8 (keyPiece [7]))) := h19
          obtain rfl : x20 = (.agg (arr8 (keyPiece [7]))) := h20
          subst ha
          have he := eq_piece (keyPiece [7]) (keyPiece [7]) (len_keyPiece _) (len_keyPiece _) true (by simp)
          have hg := guard_piece
          go_wp2_with (fail)
          exact ⟨rfl, rfl, (Below.refl _ _), rfl⟩
        · intro u W hC' hu a ha
          have hC : Below v5.heap.size v5 W := hC'
          clear hC'
          have h21 : (Det (.bool true)) (u 3) W := hu.1
          clear hu
          simp only [puts, Act.put, List.setIfInBounds_toArray, List.set_cons_zero, List.set_cons_succ] at ha
          generalize u 3 = x21 at h21 ha
          obtain rfl : x21 = (.bool true) := h21
          subst ha
          go_wp2_with (fail)
          exact ⟨rfl, rfl, (Below.refl _ _), rfl⟩
        · intro u W hC' hu a ha
          have hC : Below v5.heap.size v5 W := hC'
          clear hC'
          have h22 : (Det (.bool true)) (u 4) W := hu.1
          clear hu
          simp only [puts, Act.put, List.setIfInBounds_toArray, List.set_cons_zero, List.set_cons_succ] at ha
          generalize u 4 = x22 at h22 ha
          obtain rfl : x22 = (.bool true) := h22
          subst ha
          go_wp2_with (fail)
          exact ⟨rfl, rfl, (Below.refl _ _), rfl⟩
        · intro u W hC' hu a ha
          have hC : Below v5.heap.size v5 W := hC'
          clear hC'
          have h23 : (Det (.slice A0 n0 c0)) (u 5) W := hu.1
          have h22 : (Det (.bool true)) (u 4) W := hu.2.1
          clear hu
          simp only [puts, Act.put, List.setIfInBounds_toArray, List.set_cons_zero, List.set_cons_succ] at ha
          generalize u 5 = x23 at h23 ha
          generalize u 4 = x22 at h22 ha
          obtain rfl : x23 = (.slice A0 n0 c0) := h23
          obtain rfl : x22 = (.bool true) := h22
          subst ha
          go_wp2_with (fail)
          exact ⟨rfl, rfl, (Below.refl _ _), rfl⟩
        · intro u W hC' hu a ha
          have hC : Below v5.heap.size v5 W := hC'
          clear hC'
          have h24 : (Det (.int .i64 (n0 : Int))) (u 6) W := hu.1
          have h22 : (Det (.bool true)) (u 4) W := hu.2.1
          clear hu
          simp only [puts, Act.put, List.setIfInBounds_toArray, List.set_cons_zero, List.set_cons_succ] at ha
          generalize u 6 = x24 at h24 ha
          generalize u 4 = x22 at h22 ha
          obtain rfl : x24 = (.int .i64 (n0 : Int)) := h24
          obtain rfl : x22 = (.bool true) := h22
          subst ha
          have hto := arr_to_run (P := Try.prog) (T := 34) Try.underlying34 size1 (by omega) v3.heap.size n0 (n0 : Int) rfl hshort
          go_wp2_with (fail)
          exact ⟨rfl, rfl, (Below.refl _ _), rfl⟩
        · intro u W hC' hu a ha
          have hC : Below v5.heap.size v5 W := hC'
          clear hC'
          have h25 : (Det (.slice (some ⟨v3.heap.size, 0, none⟩) n0 64)) (u 7) W := hu.1
          have h22 : (Det (.bool true)) (u 4) W := hu.2.1
          clear hu
          simp only [puts, Act.put, List.setIfInBounds_toArray, List.set_cons_zero, List.set_cons_succ] at ha
          generalize u 7 = x25 at h25 ha
          generalize u 4 = x22 at h22 ha
          obtain rfl : x25 = (.slice (some ⟨v3.heap.size, 0, none⟩) n0 64) := h25
          obtain rfl : x22 = (.bool true) := h22
          subst ha
          have hcv := (hp0.below hC).str
          go_wp2_with (fail)
          exact ⟨rfl, rfl, (Below.refl _ _), rfl⟩
        · intro u W hC' hu a ha
          have hC : Below v5.heap.size v5 W := hC'
          clear hC'
          have h22 : (Det (.bool true)) (u 4) W := hu.1
          clear hu
          simp only [puts, Act.put, List.setIfInBounds_toArray, List.set_cons_zero, List.set_cons_succ] at ha
          generalize u 4 = x22 at h22 ha
          obtain rfl : x22 = (.bool true) := h22
          subst ha
          go_wp2_with (fail)
          exact ⟨rfl, rfl, (Below.refl _ _), rfl⟩
        · intro u W hC' hu a ha
          have hC : Below v5.heap.size v5 W := hC'
          clear hC'
          have h27 : (Det (.slice A0 n0 c0)) (u 9) W := hu.1
          have h22 : (Det (.bool true)) (u 4) W := hu.2.1
          clear hu
          simp only [puts, Act.put, List.setIfInBounds_toArray, List.set_cons_zero, List.set_cons_succ] at ha
          generalize u 9 = x27 at h27 ha
          generalize u 4 = x22 at h22 ha
          obtain rfl : x27 = (.slice A0 n0 c0) := h27
          obtain rfl : x22 = (.bool true) := h22
          subst ha
          have hcv := (hk5.below (hC.mono hz5)).str
          go_wp2_with (fail)
          exact ⟨rfl, rfl, (Below.refl _ _), rfl⟩
        · intro u W hC' hu a ha
          have hC : Below v5.heap.size v5 W := hC'
          clear hC'
          have h26 : (Det (.string ⟨bs0.toArray⟩)) (u 8) W := hu.1
          have h28 : (Det (.string ⟨bs0.toArray⟩)) (u 10) W := hu.2.1
          have h22 : (Det (.bool true)) (u 4) W := hu.2.2.1
          clear hu
          simp only [puts, Act.put, List.setIfInBounds_toArray, List.set_cons_zero, List.set_cons_succ] at ha
          generalize u 8 = x26 at h26 ha
          generalize u 10 = x28 at h28 ha
          generalize u 4 = x22 at h22 ha
          obtain rfl : x26 = (.string ⟨bs0.toArray⟩) := h26
          obtain rfl : x28 = (.string ⟨bs0.toArray⟩) := h28
          obtain rfl : x22 = (.bool true) := h22
          subst ha
          go_wp2_with (fail)
          exact ⟨rfl, rfl, (Below.refl _ _), rfl⟩
        · intro u W hC' hu a ha
          have hC : Below v5.heap.size v5 W := hC'
          clear hC'
          have h22 : (Det (.bool true)) (u 4) W := hu.1
          have h29 : (Det (.bool true)) (u 11) W := hu.2.1
          clear hu
          simp only [puts, Act.put, List.setIfInBounds_toArray, List.set_cons_zero, List.set_cons_succ] at ha
          generalize u 4 = x22 at h22 ha
          generalize u 11 = x29 at h29 ha
          obtain rfl : x22 = (.bool true) := h22
          obtain rfl : x29 = (.bool true) := h29
          subst ha
          go_wp2_with (fail)
          exact ⟨rfl, rfl, (Below.refl _ _), rfl⟩
        · intro u W hC' hu a ha
          have hC : Below v5.heap.size v5 W := hC'
          clear hC'
          have h30 : (Det (.bool true)) (u 12) W := hu.1
          clear hu
          simp only [puts, Act.put, List.setIfInBounds_toArray, List.set_cons_zero, List.set_cons_succ] at ha
          generalize u 12 = x30 at h30 ha
          obtain rfl : x30 = (.bool true) := h30
          subst ha
          go_wp2_with (fail)
          exact ⟨rfl, rfl, (Below.refl _ _), rfl⟩
        · intro u W hC' hu a ha
          have hC : Below v5.heap.size v5 W := hC'
          clear hC'
          have h31 : (Det (.bool true)) (u 13) W := hu.1
          clear hu
          simp only [puts, Act.put, List.setIfInBounds_toArray, List.set_cons_zero, List.set_cons_succ] at ha
          generalize u 13 = x31 at h31 ha
          obtain rfl : x31 = (.bool true) := h31
          subst ha
          go_wp2_with (fail)
          exact ⟨rfl, rfl, (Below.refl _ _), rfl⟩
        · intro u W hC' hu a ha
          have hC : Below v5.heap.size v5 W := hC'
          clear hC'
          have h31 : (Det (.bool true)) (u 13) W := hu.1
          clear hu
          simp only [puts, Act.put, List.setIfInBounds_toArray, List.set_cons_zero, List.set_cons_succ] at ha
          generalize u 13 = x31 at h31 ha
          obtain rfl : x31 = (.bool true) := h31
          subst ha
          go_wp2_with (fail)
          exact ⟨rfl, rfl, (Below.refl _ _), rfl⟩
        · intro u W hC' hu a ha
          have hC : Below v5.heap.size v5 W := hC'
          clear hC'
          have h33 : (Det (.slice A1 n1 c1)) (u 15) W := hu.1
          have h31 : (Det (.bool true)) (u 13) W := hu.2.1
          clear hu
          simp only [puts, Act.put, List.setIfInBounds_toArray, List.set_cons_zero, List.set_cons_succ] at ha
          generalize u 15 = x33 at h33 ha
          generalize u 13 = x31 at h31 ha
          obtain rfl : x33 = (.slice A1 n1 c1) := h33
          obtain rfl : x31 = (.bool true) := h31
          subst ha
          go_wp2_with (fail)
          exact ⟨rfl, rfl, (below_alloc _ _), RelP.one ((ht5.below (hC.mono hz5)).more (Nat.le_trans hz5 hC.size))⟩
        · intro u W hC' hu a ha
          have hC : Below v5.heap.size v5 W := hC'
          clear hC'
          have h32 : (Det (.slice A0 n0 c0)) (u 14) W := hu.1
          have h34 : (RelP 1 [bs1]) (u 16) W := hu.2.1
          have h31 : (Det (.bool true)) (u 13) W := hu.2.2.1
          clear hu
          simp only [puts, Act.put, List.setIfInBounds_toArray, List.set_cons_zero, List.set_cons_succ] at ha
          generalize u 14 = x32 at h32 ha
          generalize u 16 = x34 at h34 ha
          generalize u 13 = x31 at h31 ha
          obtain rfl : x32 = (.slice A0 n0 c0) := h32
          obtain rfl : x31 = (.bool true) := h31
          subst ha
          go_wp2_with ((go_at_call 41; refine (tag_p (hk5.below (hC.mono hz5)) (Nat.le_trans hz5 hC.size) (by omega) h34 (by rw [List.flatten_singleton]; omega) (by omega)).mono ?_; rintro e W1 ⟨rfl, hb⟩; rw [List.flatten_singleton]))
          exact ⟨rfl, rfl, hb, rfl⟩
        · intro u W hC' hu a ha
          have hC : Below v5.heap.size v5 W := hC'
          clear hC'
          have h31 : (Det (.bool true)) (u 13) W := hu.1
          clear hu
          simp only [puts, Act.put, List.setIfInBounds_toArray, List.set_cons_zero, List.set_cons_succ] at ha
          generalize u 13 = x31 at h31 ha
          obtain rfl : x31 = (.bool true) := h31
          subst ha
          have hto := arr_all_run (P := Try.prog) (T := 34) Try.underlying34 size1 (by omega) v3.heap.size
          go_wp2_with (fail)
          exact ⟨rfl, rfl, (Below.refl _ _), rfl⟩
        · intro u W hC' hu a ha
          have hC : Below v5.heap.size v5 W := hC'
          clear hC'
          have h31 : (Det (.bool true)) (u 13) W := hu.1
          clear hu
          simp only [puts, Act.put, List.setIfInBounds_toArray, List.set_cons_zero, List.set_cons_succ] at ha
          generalize u 13 = x31 at h31 ha
          obtain rfl : x31 = (.bool true) := h31
          subst ha
          go_wp2_with (fail)
          exact ⟨rfl, rfl, (Below.refl _ _), rfl⟩
        · intro u W hC' hu a ha
          have hC : Below v5.heap.size v5 W := hC'
          clear hC'
          have h37 : (Det (.slice A1 n1 c1)) (u 19) W := hu.1
          have h31 : (Det (.bool true)) (u 13) W := hu.2.1
          clear hu
          simp only [puts, Act.put, List.setIfInBounds_toArray, List.set_cons_zero, List.set_cons_succ] at ha
          generalize u 19 = x37 at h37 ha
          generalize u 13 = x31 at h31 ha
          obtain rfl : x37 = (.slice A1 n1 c1) := h37
          obtain rfl : x31 = (.bool true) := h31
          subst ha
          go_wp2_with (fail)
          exact ⟨rfl, rfl, (below_alloc _ _), RelP.one ((ht5.below (hC.mono hz5)).more (Nat.le_trans hz5 hC.size))⟩
        · intro u W hC' hu a ha
          have hC : Below v5.heap.size v5 W := hC'
          clear hC'
          have h36 : (Det (.slice (some ⟨v3.heap.size, 0, none⟩) 64 64)) (u 18) W := hu.1
          have h38 : (RelP 1 [bs1]) (u 20) W := hu.2.1
          have h31 : (Det (.bool true)) (u 13) W := hu.2.2.1
          clear hu
          simp only [puts, Act.put, List.setIfInBounds_toArray, List.set_cons_zero, List.set_cons_succ] at ha
          generalize u 18 = x36 at h36 ha
          generalize u 20 = x38 at h38 ha
          generalize u 13 = x31 at h31 ha
          obtain rfl : x36 = (.slice (some ⟨v3.heap.size, 0, none⟩) 64 64) := h36
          obtain rfl : x31 = (.bool true) := h31
          subst ha
          go_wp2_with ((go_at_call 41; refine (tag_p (hpf.below hC) hC.size (by omega) h38 (by rw [List.flatten_singleton]; omega) (by omega)).mono ?_; rintro e W1 ⟨rfl, hb⟩; rw [List.flatten_singleton, HS.out]))
          exact ⟨rfl, rfl, hb, rfl⟩
        · intro u W hC' hu a ha
          have hC : Below v5.heap.size v5 W := hC'
          clear hC'
          have h35 : (Det (.agg (arr8 (hmac bs0 bs1)))) (u 17) W := hu.1
          have h39 : (Det (.agg (arr8 (hmac bs0 bs1)))) (u 21) W := hu.2.1
          have h31 : (Det (.bool true)) (u 13) W := hu.2.2.1
          clear hu
          simp only [puts, Act.put, List.setIfInBounds_toArray, List.set_cons_zero, List.set_cons_succ] at ha
          generalize u 17 = x35 at h35 ha
          generalize u 21 = x39 at h39 ha
          generalize u 13 = x31 at h31 ha
          obtain rfl : x35 = (.agg (arr8 (hmac bs0 bs1))) := h35
          obtain rfl : x39 = (.agg (arr8 (hmac bs0 bs1))) := h39
          obtain rfl : x31 = (.bool true) := h31
          subst ha
          have he := eq44 (hmac bs0 bs1) (hmac bs0 bs1) (len_hmac _ _) (len_hmac _ _) true (by simp)
          have hg := guard44
          go_wp2_with (fail)
          exact ⟨rfl, rfl, (Below.refl _ _), rfl⟩
        · intro u W hC' hu a ha
          have hC : Below v5.heap.size v5 W := hC'
          clear hC'
          have h31 : (Det (.bool true)) (u 13) W := hu.1
          have h40 : (Det (.bool true)) (u 22) W := hu.2.1
          clear hu
          simp only [puts, Act.put, List.setIfInBounds_toArray, List.set_cons_zero, List.set_cons_succ] at ha
          generalize u 13 = x31 at h31 ha
          generalize u 22 = x40 at h40 ha
          obtain rfl : x31 = (.bool true) := h31
          obtain rfl : x40 = (.bool true) := h40
          subst ha
          go_wp2_with (fail)
          exact ⟨rfl, rfl, (Below.refl _ _), rfl⟩
        · intro u W hC' hu a ha
          have hC : Below v5.heap.size v5 W := hC'
          clear hC'
          have h41 : (Det (.bool true)) (u 23) W := hu.1
          clear hu
          simp only [puts, Act.put, List.setIfInBounds_toArray, List.set_cons_zero, List.set_cons_succ] at ha
          generalize u 23 = x41 at h41 ha
          obtain rfl : x41 = (.bool true) := h41
          subst ha
          go_wp2_with (fail)
          exact ⟨rfl, rfl, (Below.refl _ _), rfl⟩
      intro u v6 hC' hu a ha
      have hCv6 : Below v5.heap.size v5 v6 := hC'
      clear hC'
      have h4 : (Det (.bool true)) (u 24) v6 := hu.2.2.2.2.2.2.2.2.2.2.2.2.2.2.2.2.2.2.2.2.2.2.2.2.1
      clear hu
      simp only [puts, Act.put, List.setIfInBounds_toArray, List.set_cons_zero, List.set_cons_succ] at ha
      generalize u 0 = x18 at ha
      generalize u 1 = x19 at ha
      generalize u 2 = x20 at ha
      generalize u 3 = x21 at ha
      generalize u 4 = x22 at ha
      generalize u 5 = x23 at ha
      generalize u 6 = x24 at ha
      generalize u 7 = x25 at ha
      generalize u 8 = x26 at ha
      generalize u 9 = x27 at ha
      generalize u 10 = x28 at ha
      generalize u 11 = x29 at ha
      generalize u 12 = x30 at ha
      generalize u 13 = x31 at ha
      generalize u 14 = x32 at ha
      generalize u 15 = x33 at ha
      generalize u 16 = x34 at ha
      generalize u 17 = x35 at ha
      generalize u 18 = x36 at ha
      generalize u 19 = x37 at ha
      generalize u 20 = x38 at ha
      generalize u 21 = x39 at ha
      generalize u 22 = x40 at ha
      generalize u 23 = x41 at ha
      generalize u 24 = x4 at h4 ha
      obtain rfl : x4 = (.bool true) := h4
      subst ha
      go_wp2_with fail
      go_ret
      exact ⟨rfl, hw5.trans (hCv6.mono hz5)⟩
    · have hl1' : bs1.length ≤ 4096 := by rw [hl1.out]; omega
      have hlong : 64 < bs0.length := by rw [hl0.out]; omega
      have h5 := hb5.below h58 hb5.lt
      have hw8 := hw5.trans (h58.mono hz5)
      have hz8 := hw8.size
      have hp0 : SlB v8 v8.heap.size (some ⟨v3.heap.size, 0, none⟩) 32 64 (sha bs0) := by
        have := SlB.ofBlk h5 (lo := 0) (hi := 32) (c := 64) (B := v8.heap.size) (by omega) (by rw [len_keyPiece]; omega) (by omega) (by simp [maxLen]) h5.lt
        rw [List.drop_zero, Nat.sub_zero, piece_take_long hlong] at this
        exact this
      have hd0 := sum_sl hb8 (len_sha bs0)
      have hk8 := hk5.below (h58.mono hz5)
      have ht8 := ht5.below (h58.mono hz5)
      have hsame : hmac (sha bs0) bs1 = hmac bs0 bs1 := hmac_of_piece (piece_sha hlong) bs1
      have HS := Lib.hid hsame
      clear hsame h2 q2 hb2 hb3 b4 hh0 h10 hb10 h11 h25 h15 hlarge hz2 hb6 b7 hk5 ht5 hb5
      refine wp_region_rel (fun W W' => Below W.heap.size W W') (fun W => Below v8.heap.size v8 W)
        [Det (.slice (some ⟨v3.heap.size, 0, none⟩) 32 64), Det (.string ⟨(sha bs0).toArray⟩), Det (.slice (some ⟨v6.heap.size, 0, none⟩) 32 32), Det (.string ⟨(sha bs0).toArray⟩), Det (.bool true), Det (.bool true), Det (.slice A0 n0 c0), Det (.slice A1 n1 c1), RelP 1 [bs1], Det (.agg (arr8 (hmac bs0 bs1))), Det (.slice (some ⟨v6.heap.size, 0, none⟩) 32 32), Det (.slice A1 n1 c1), RelP 1 [bs1], Det (.agg (arr8 (hmac bs0 bs1))), Det (.bool true), Det (.bool true), Det (.bool true)]
        [[], [(0, some 44)], [], [(2, some 46)], [(1, some 45), (3, some 47)], [(4, some 48)], [(5, some 49)], [(5, some 49)], [(7, some 51), (5, some 49)], [(6, some 50), (8, some 52), (5, some 49)], [(5, some 49)], [(5, some 49)], [(11, some 55), (5, some 49)], [(10, some 54), (12, some 56), (5, some 49)], [(9, some 53), (13, some 57), (5, some 49)], [(5, some 49), (14, some 58)], [(15, some 59)]]
        [[], [0], [], [2], [0, 1, 2, 3], [0, 1, 2, 3, 4], [0, 1, 2, 3, 4, 5], [0, 1, 2, 3, 4, 5], [0, 1, 2, 3, 4, 5, 7], [0, 1, 2, 3, 4, 5, 6, 7, 8], [0, 1, 2, 3, 4, 5], [0, 1, 2, 3, 4, 5], [0, 1, 2, 3, 4, 5, 11], [0, 1, 2, 3, 4, 5, 6, 7, 8, 9, 10, 11, 12], [0, 1, 2, 3, 4, 5, 6, 7, 8, 9, 10, 11, 12, 13], [0, 1, 2, 3, 4, 5, 6, 7, 8, 9, 10, 11, 12, 13, 14], [0, 1, 2, 3, 4, 5, 6, 7, 8, 9, 10, 11, 12, 13, 14, 15]]
        [(0, some 44), (1, some 45), (2, some 46), (3, some 47), (4, some 48), (5, some 49), (6, some 50), (7, some 51), (8, some 52), (9, some 53), (10, some 54), (11, some 55), (12, some 56), (13, some 57), (14, some 58), (15, some 59), (16, some 4)] (by kernel_rfl) (by kernel_rfl) (fun W W' h1 h2 => h1.trans (h2.mono h1.size)) ((Below.refl _ _).drew) ?_ ?_ ?_
      · exact (AllMono.cons Det.later (AllMono.cons Det.later (AllMono.cons Det.later (AllMono.cons Det.later (AllMono.cons Det.later (AllMono.cons Det.later (AllMono.cons Det.later (AllMono.cons Det.later (AllMono.cons RelP.later (AllMono.cons Det.later (AllMono.cons Det.later (AllMono.cons Det.later (AllMono.cons RelP.later (AllMono.cons Det.later (AllMono.cons Det.later (AllMono.cons Det.later (AllMono.cons Det.later AllMono.nil)))))))))))))))))
      · refine AllOb.cons ?_ (AllOb.cons ?_ (AllOb.cons ?_ (AllOb.cons ?_ (AllOb.cons ?_ (AllOb.cons ?_ (AllOb.cons ?_ (AllOb.cons ?_ (AllOb.cons ?_ (AllOb.cons ?_ (AllOb.cons ?_ (AllOb.cons ?_ (AllOb.cons ?_ (AllOb.cons ?_ (AllOb.cons ?_ (AllOb.cons ?_ (AllOb.cons ?_ (AllOb.nil)))))))))))))))))
        · intro u W hC' hu a ha
          have hC : Below v8.heap.size v8 W := hC'
          clear hC'
          simp only [puts] at ha
          subst ha
          have hto := arr_to_run (P := Try.prog) (T := 34) Try.underlying34 size1 (by omega) v3.heap.size 32 32 rfl (by omega)
          go_wp2_with (fail)
          exact ⟨rfl, rfl, (Below.refl _ _), rfl⟩
        · intro u W hC' hu a ha
          have hC : Below v8.heap.size v8 W := hC'
          clear hC'
          have h44 : (Det (.slice (some ⟨v3.heap.size, 0, none⟩) 32 64)) (u 0) W := hu.1
          clear hu
          simp only [puts, Act.put, List.setIfInBounds_toArray, List.set_cons_zero, List.set_cons_succ] at ha
          generalize u 0 = x44 at h44 ha
          obtain rfl : x44 = (.slice (some ⟨v3.heap.size, 0, none⟩) 32 64) := h44
          subst ha
          have hcv := (hp0.below hC).str
          go_wp2_with (fail)
          exact ⟨rfl, rfl, (Below.refl _ _), rfl⟩
        · intro u W hC' hu a ha
          have hC : Below v8.heap.size v8 W := hC'
          clear hC'
          simp only [puts] at ha
          subst ha
          have hto := arr_all_run (P := Try.prog) (T := 44) Try.underlying44 size1 (by omega) v6.heap.size
          go_wp2_with (fail)
          exact ⟨rfl, rfl, (Below.refl _ _), rfl⟩
        · intro u W hC' hu a ha
          have hC : Below v8.heap.size v8 W := hC'
          clear hC'
          have h46 : (Det (.slice (some ⟨v6.heap.size, 0, none⟩) 32 32)) (u 2) W := hu.1
          clear hu
          simp only [puts, Act.put, List.setIfInBounds_toArray, List.set_cons_zero, List.set_cons_succ] at ha
          generalize u 2 = x46 at h46 ha
          obtain rfl : x46 = (.slice (some ⟨v6.heap.size, 0, none⟩) 32 32) := h46
          subst ha
          have hcv := (hd0.below hC).str
          go_wp2_with (fail)
          exact ⟨rfl, rfl, (Below.refl _ _), rfl⟩
        · intro u W hC' hu a ha
          have hC : Below v8.heap.size v8 W := hC'
          clear hC'
          have h45 : (Det (.string ⟨(sha bs0).toArray⟩)) (u 1) W := hu.1
          have h47 : (Det (.string ⟨(sha bs0).toArray⟩)) (u 3) W := hu.2.1
          clear hu
          simp only [puts, Act.put, List.setIfInBounds_toArray, List.set_cons_zero, List.set_cons_succ] at ha
          generalize u 1 = x45 at h45 ha
          generalize u 3 = x47 at h47 ha
          obtain rfl : x45 = (.string ⟨(sha bs0).toArray⟩) := h45
          obtain rfl : x47 = (.string ⟨(sha bs0).toArray⟩) := h47
          subst ha
          go_wp2_with (fail)
          exact ⟨rfl, rfl, (Below.refl _ _), rfl⟩
        · intro u W hC' hu a ha
          have hC : Below v8.heap.size v8 W := hC'
          clear hC'
          have h48 : (Det (.bool true)) (u 4) W := hu.1
          clear hu
          simp only [puts, Act.put, List.setIfInBounds_toArray, List.set_cons_zero, List.set_cons_succ] at ha
          generalize u 4 = x48 at h48 ha
          obtain rfl : x48 = (.bool true) := h48
          subst ha
          go_wp2_with (fail)
          exact ⟨rfl, rfl, (Below.refl _ _), rfl⟩
        · intro u W hC' hu a ha
          have hC : Below v8.heap.size v8 W := hC'
          clear hC'
          have h49 : (Det (.bool true)) (u 5) W := hu.1
          clear hu
          simp only [puts, Act.put, List.setIfInBounds_toArray, List.set_cons_zero, List.set_cons_succ] at ha
          generalize u 5 = x49 at h49 ha
          obtain rfl : x49 = (.bool true) := h49
          subst ha
          go_wp2_with (fail)
          exact ⟨rfl, rfl, (Below.refl _ _), rfl⟩
        · intro u W hC' hu a ha
          have hC : Below v8.heap.size v8 W := hC'
          clear hC'
          have h49 : (Det (.bool true)) (u 5) W := hu.1
          clear hu
          simp only [puts, Act.put, List.setIfInBounds_toArray, List.set_cons_zero, List.set_cons_succ] at ha
          generalize u 5 = x49 at h49 ha
          obtain rfl : x49 = (.bool true) := h49
          subst ha
          go_wp2_with (fail)
          exact ⟨rfl, rfl, (Below.refl _ _), rfl⟩
        · intro u W hC' hu a ha
          have hC : Below v8.heap.size v8 W := hC'
          clear hC'
          have h51 : (Det (.slice A1 n1 c1)) (u 7) W := hu.1
          have h49 : (Det (.bool true)) (u 5) W := hu.2.1
          clear hu
          simp only [puts, Act.put, List.setIfInBounds_toArray, List.set_cons_zero, List.set_cons_succ] at ha
          generalize u 7 = x51 at h51 ha
          generalize u 5 = x49 at h49 ha
          obtain rfl : x51 = (.slice A1 n1 c1) := h51
          obtain rfl : x49 = (.bool true) := h49
          subst ha
          go_wp2_with (fail)
          exact ⟨rfl, rfl, (below_alloc _ _), RelP.one ((ht8.below (hC.mono hz8)).more (Nat.le_trans hz8 hC.size))⟩
        · intro u W hC' hu a ha
          have hC : Below v8.heap.size v8 W := hC'
          clear hC'
          have h50 : (Det (.slice A0 n0 c0)) (u 6) W := hu.1
          have h52 : (RelP 1 [bs1]) (u 8) W := hu.2.1
          have h49 : (Det (.bool true)) (u 5) W := hu.2.2.1
          clear hu
          simp only [puts, Act.put, List.setIfInBounds_toArray, List.set_cons_zero, List.set_cons_succ] at ha
          generalize u 6 = x50 at h50 ha
          generalize u 8 = x52 at h52 ha
          generalize u 5 = x49 at h49 ha
          obtain rfl : x50 = (.slice A0 n0 c0) := h50
          obtain rfl : x49 = (.bool true) := h49
          subst ha
          go_wp2_with ((go_at_call 41; refine (tag_p (hk8.below (hC.mono hz8)) (Nat.le_trans hz8 hC.size) (by omega) h52 (by rw [List.flatten_singleton]; omega) (by omega)).mono ?_; rintro e W1 ⟨rfl, hb⟩; rw [List.flatten_singleton]))
          exact ⟨rfl, rfl, hb, rfl⟩
        · intro u W hC' hu a ha
          have hC : Below v8.heap.size v8 W := hC'
          clear hC'
          have h49 : (Det (.bool true)) (u 5) W := hu.1
          clear hu
          simp only [puts, Act.put, List.setIfInBounds_toArray, List.set_cons_zero, List.set_cons_succ] at ha
          generalize u 5 = x49 at h49 ha
          obtain rfl : x49 = (.bool true) := h49
          subst ha
          have hto := arr_all_run (P := Try.prog) (T := 44) Try.underlying44 size1 (by omega) v6.heap.size
          go_wp2_with (fail)
          exact ⟨rfl, rfl, (Below.refl _ _), rfl⟩
        · intro u W hC' hu a ha
          have hC : Below v8.heap.size v8 W := hC'
          clear hC'
          have h49 : (Det (.bool true)) (u 5) W := hu.1
          clear hu
          simp only [puts, Act.put, List.setIfInBounds_toArray, List.set_cons_zero, List.set_cons_succ] at ha
          generalize u 5 = x49 at h49 ha
          obtain rfl : x49 = (.bool true) := h49
          subst ha
          go_wp2_with (fail)
          exact ⟨rfl, rfl, (Below.refl _ _), rfl⟩
        · intro u W hC' hu a ha
          have hC : Below v8.heap.size v8 W := hC'
          clear hC'
          have h55 : (Det (.slice A1 n1 c1)) (u 11) W := hu.1
          have h49 : (Det (.bool true)) (u 5) W := hu.2.1
          clear hu
          simp only [puts, Act.put, List.setIfInBounds_toArray, List.set_cons_zero, List.set_cons_succ] at ha
          generalize u 11 = x55 at h55 ha
          generalize u 5 = x49 at h49 ha
          obtain rfl : x55 = (.slice A1 n1 c1) := h55
          obtain rfl : x49 = (.bool true) := h49
          subst ha
          go_wp2_with (fail)
          exact ⟨rfl, rfl, (below_alloc _ _), RelP.one ((ht8.below (hC.mono hz8)).more (Nat.le_trans hz8 hC.size))⟩
        · intro u W hC' hu a ha
          have hC : Below v8.heap.size v8 W := hC'
          clear hC'
          have h54 : (Det (.slice (some ⟨v6.heap.size, 0, none⟩) 32 32)) (u 10) W := hu.1
          have h56 : (RelP 1 [bs1]) (u 12) W := hu.2.1
          have h49 : (Det (.bool true)) (u 5) W := hu.2.2.1
          clear hu
          simp only [puts, Act.put, List.setIfInBounds_toArray, List.set_cons_zero, List.set_cons_succ] at ha
          generalize u 10 = x54 at h54 ha
          generalize u 12 = x56 at h56 ha
          generalize u 5 = x49 at h49 ha
          obtain rfl : x54 = (.slice (some ⟨v6.heap.size, 0, none⟩) 32 32) := h54
          obtain rfl : x49 = (.bool true) := h49
          subst ha
          go_wp2_with ((go_at_call 41; refine (tag_p (hd0.below hC) hC.size (by omega) h56 (by rw [List.flatten_singleton]; omega) (by omega)).mono ?_; rintro e W1 ⟨rfl, hb⟩; rw [List.flatten_singleton, HS.out]))
          exact ⟨rfl, rfl, hb, rfl⟩
        · intro u W hC' hu a ha
          have hC : Below v8.heap.size v8 W := hC'
          clear hC'
          have h53 : (Det (.agg (arr8 (hmac bs0 bs1)))) (u 9) W := hu.1
          have h57 : (Det (.agg (arr8 (hmac bs0 bs1)))) (u 13) W := hu.2.1
          have h49 : (Det (.bool true)) (u 5) W := hu.2.2.1
          clear hu
          simp only [puts, Act.put, List.setIfInBounds_toArray, List.set_cons_zero, List.set_cons_succ] at ha
          generalize u 9 = x53 at h53 ha
          generalize u 13 = x57 at h57 ha
          generalize u 5 = x49 at h49 ha
          obtain rfl : x53 = (.agg (arr8 (hmac bs0 bs1))) := h53
          obtain rfl : x57 = (.agg (arr8 (hmac bs0 bs1))) := h57
          obtain rfl : x49 = (.bool true) := h49
          subst ha
          have he := eq44 (hmac bs0 bs1) (hmac bs0 bs1) (len_hmac _ _) (len_hmac _ _) true (by simp)
          have hg := guard44
          go_wp2_with (fail)
          exact ⟨rfl, rfl, (Below.refl _ _), rfl⟩
        · intro u W hC' hu a ha
          have hC : Below v8.heap.size v8 W := hC'
          clear hC'
          have h49 : (Det (.bool true)) (u 5) W := hu.1
          have h58 : (Det (.bool true)) (u 14) W := hu.2.1
          clear hu
          simp only [puts, Act.put, List.setIfInBounds_toArray, List.set_cons_zero, List.set_cons_succ] at ha
          generalize u 5 = x49 at h49 ha
          generalize u 14 = x58 at h58 ha
          obtain rfl : x49 = (.bool true) := h49
          obtain rfl : x58 = (.bool true) := h58
          subst ha
          go_wp2_with (fail)
          exact ⟨rfl, rfl, (Below.refl _ _), rfl⟩
        · intro u W hC' hu a ha
          have hC : Below v8.heap.size v8 W := hC'
          clear hC'
          have h59 : (Det (.bool true)) (u 15) W := hu.1
          clear hu
          simp only [puts, Act.put, List.setIfInBounds_toArray, List.set_cons_zero, List.set_cons_succ] at ha
          generalize u 15 = x59 at h59 ha
          obtain rfl : x59 = (.bool true) := h59
          subst ha
          go_wp2_with (fail)
          exact ⟨rfl, rfl, (Below.refl _ _), rfl⟩
      intro u v9 hC' hu a ha
      have hCv9 : Below v8.heap.size v8 v9 := hC'
      clear hC'
      have h4 : (Det (.bool true)) (u 16) v9 := hu.2.2.2.2.2.2.2.2.2.2.2.2.2.2.2.2.1
      clear hu
      simp only [puts, Act.put, List.setIfInBounds_toArray, List.set_cons_zero, List.set_cons_succ] at ha
      generalize u 0 = x44 at ha
      generalize u 1 = x45 at ha
      generalize u 2 = x46 at ha
      generalize u 3 = x47 at ha
      generalize u 4 = x48 at ha
      generalize u 5 = x49 at ha
      generalize u 6 = x50 at ha
      generalize u 7 = x51 at ha
      generalize u 8 = x52 at ha
      generalize u 9 = x53 at ha
      generalize u 10 = x54 at ha
      generalize u 11 = x55 at ha
      generalize u 12 = x56 at ha
      generalize u 13 = x57 at ha
      generalize u 14 = x58 at ha
      generalize u 15 = x59 at ha
      generalize u 16 = x4 at h4 ha
      obtain rfl : x4 = (.bool true) := h4
      subst ha
      go_wp2_with fail
      go_ret
      exact ⟨rfl, hw8.trans (hCv9.mono hz8)⟩
end Go.Proofs.Ytbphoilfiahnpaa.macKeys

