/-
  The statement MacParted's 'parts' answers true.
-/
import Derived.Test.YtbphoilfiahnpaaMacUse
import Derived.Test.YtbphoilfiahnpaaRelL
namespace Go.Proofs.Ytbphoilfiahnpaa.macParted
open Go.RowKit
set_option linter.unusedVariables false
set_option linter.unusedSimpArgs false
set_option maxRecDepth 100000

theorem wrap_u64_nn (x : Int) : 0 ≤ IntKind.u64.wrap x := by rw [wrap_u64]; omega

set_option maxHeartbeats 4000000 in
theorem parts_c {w : World} {A0 A1 A2 : Option Addr} {n0 c0 n1 c1 n2 c2 : Nat} {key a b : List UInt8} (w0 : SlB w w.heap.size A0 n0 c0 key) (y0 : c0 ≤ 140737488351232) (w1 : SlB w w.heap.size A1 n1 c1 a) (y1 : c1 ≤ 140737488351232) (w2 : SlB w w.heap.size A2 n2 c2 b) (y2 : c2 ≤ 140737488351232)
    (x : Int) (hx : (Lit.int .i64 x).wf = true) :
    Calls Try.prog 43 #[.slice A0 n0 c0, .slice A1 n1 c1, .slice A2 n2 c2, .int .i64 x] w fun e w' => e = .returned (.bool true) ∧ Below w.heap.size w w' := by
  have hnb0 : n0 ≤ 140737488351232 := Nat.le_trans w0.le y0
  have hnb1 : n1 ≤ 140737488351232 := Nat.le_trans w1.le y1
  have hnb2 : n2 ≤ 140737488351232 := Nat.le_trans w2.le y2
  by_cases hbig : 4096 < n0 + (n1 + n2)
  · go_enter Try.func43, Try.ntmps43
    go_wp2_with (go_at_call 38; refine (large3_c w0 w1 w2 true (decide_eq_true hbig) hnb0 hnb1 hnb2).mono ?_; rintro e v ⟨rfl, rfl⟩)
    go_ret
    exact ⟨rfl, (Below.refl _ _).alloc (Nat.le_refl _) _⟩
  · have hlarge := large3_c w0 w1 w2 false (decide_eq_false hbig) hnb0 hnb1 hnb2
    have hb1 : Below w.heap.size w (w.alloc (.cells #[.slice A0 n0 c0, .slice A1 n1 c1, .slice A2 n2 c2] 31)) := (Below.refl _ _).alloc (Nat.le_refl _) _
    obtain ⟨v1, hv1⟩ : ∃ v1, v1 = w.alloc (.cells #[.slice A0 n0 c0, .slice A1 n1 c1, .slice A2 n2 c2] 31) := ⟨_, rfl⟩
    rw [← hv1] at hb1 hlarge
    have HV := Lib.hid hv1
    have hz1 := hb1.size
    have k1 := (w0.below hb1).more hz1
    have a1 := (w1.below hb1).more hz1
    have b1 := (w2.below hb1).more hz1
    have hl0 := Lib.hid w0.len
    have hl1 := Lib.hid w1.len
    have hl2 := Lib.hid w2.len
    clear hv1 w0 w1 w2
    have two := RelP.two a1 b1
    have hal := below_alloc v1 (.cells #[.slice A1 n1 c1, .slice A2 n2 c2] 31)
    have HFL := Lib.hid (show ([a, b] : List (List UInt8)).flatten = a ++ b from by simp)
    have htot : ([a, b] : List (List UInt8)).flatten.length ≤ 1099511627000 := by simp [hl1.out, hl2.out]; omega
    go_enter Try.func43, Try.ntmps43
    go_wp2_with (first
      | (go_at_call 38; rw [← HV.out]; refine hlarge.mono ?_; rintro e v ⟨rfl, rfl⟩)
      | (go_at_call 41; refine (tag_p (k1.below hal) hal.size (by omega) two htot (by omega)).mono ?_; rintro e v4 ⟨rfl, hb4⟩; rw [HFL.out]; have b4 := Blk.new v4 44 (arr8 (z8' 32)); have h14 := hal.trans (hb4.mono hal.size))
      | ((with_reducible show wpList _ _ _ (Oper.mk _ (Op.alloc 44) _ _ _ _ :: _) _ _); refine wpList_alloc_agg rfl 44 rfl (arr8 (z8' 32)) zero44 ?_; (try rw [World.size_alloc]))
      | ((with_reducible show wpList _ _ _ (Oper.mk none (Op.store 44 (.tmp 9) _) _ _ _ _ :: _) _ _); refine wpList_store8 rfl 44 (.tmp 9) (.tmp 21) rfl v4.heap.size rfl (hmac key (a ++ b)) rfl agg44 (len_hmac _ _) _ _ b4 (by rw [size_arr8, len_z8']) ?_; intro v5 hb5 hg5 hs5; have h15 : Below v1.heap.size v1 v5 := (h14.alloc h14.size _).grown hg5 (Nat.le_trans h14.size (by simp)) (fun k hk => by cases hk; exact h14.size); have hz5 := h15.size; clear hs5 hg5; have a5 := ((a1.below h15).more hz5).alloc (Nat.le_refl _) (.cells #[] 5); have h50 : OwB (v5.alloc (.cells #[] 5)) v5.heap.size (some ⟨v5.heap.size, 0, none⟩) 0 0 [] := OwB.nil _ _ _)
      | (at_builtin; refine wpList_append8 rfl (.tmp 22) (.tmp 23) rfl rfl h50 rfl a5 (by omega) (by simp) n1 (by omega) ?_; intro A6 c6 v6 h6 q6; have hb6 : Below v5.heap.size v5 v6 := q6.below h50 (below_alloc _ _) (Nat.le_refl _) (by simp); have hz6 := hb6.size; have b6 := (b1.below (h15.trans (hb6.mono hz5))).more (Nat.le_trans hz5 hz6))
      | (at_builtin; refine wpList_append8 rfl (.tmp 24) (.tmp 25) rfl rfl h6 rfl b6 (by omega) hz6 (n1 + n2) rfl ?_; intro A7 c7 v7 h7 q7; have hb7 : Below v5.heap.size v5 v7 := q7.below h6 hb6 (Nat.le_refl _) hz6; simp only [Act.put, List.setIfInBounds_toArray, List.set_cons_succ, List.set_cons_zero]))
    rw [List.nil_append] at h7
    have h57 : Below v5.heap.size v5 v7 := hb7
    have h17 := h15.trans (hb7.mono hz5)
    have hz7 := h17.size
    have hw7 : Below w.heap.size w v7 := hb1.trans (h17.mono hz1)
    have hz7w := hw7.size
    have k7 := (k1.below h17).more hz7
    have all7 := h7.sl
    have t7 := hb5.below h57 hb5.lt
    have hll : (a ++ b).length ≤ 4096 := by simp [hl1.out, hl2.out]; omega
    clear two hal htot h50 a5 h6 q6 hb6 hz6 b6 hb7 h14 hb4 b4 hlarge q7 k1 a1 b1 h7
    refine wp_region_rel (LeM v7.heap.size) (fun W => Below v7.heap.size v7 W)
      [RelK v7.heap.size 4 jefeK, RelB 4 jefeK, RelK v7.heap.size 28 whatT, RelB 28 whatT, RelP 1 [whatT], Det (.agg (arr8 (hmac jefeK whatT))), Det (.int .u8 220), Det (.bool false), Det (.bool false), Det (.agg (arr8 (hmac key (a ++ b)))), Det (.slice A0 n0 c0), Det (.slice A7 (n1 + n2) c7), RelP 1 [a ++ b], Det (.agg (arr8 (hmac key (a ++ b)))), Det (.bool false), Det (.bool false)]
      [[], [(0, some 27)], [], [(2, some 29)], [(3, some 30)], [(1, some 28), (4, some 31)], [(5, some 32)], [(6, some 33)], [(7, some 34)], [(8, some 35)], [(8, some 35)], [(8, some 35)], [(11, some 38), (8, some 35)], [(10, some 37), (12, some 39), (8, some 35)], [(9, some 36), (13, some 40), (8, some 35)], [(8, some 35), (14, some 41)]]
      [[], [0], [], [2], [2, 3], [0, 1, 2, 3, 4], [0, 1, 2, 3, 4, 5], [0, 1, 2, 3, 4, 5, 6], [0, 1, 2, 3, 4, 5, 6, 7], [0, 1, 2, 3, 4, 5, 6, 7, 8], [0, 1, 2, 3, 4, 5, 6, 7, 8], [0, 1, 2, 3, 4, 5, 6, 7, 8], [0, 1, 2, 3, 4, 5, 6, 7, 8, 11], [0, 1, 2, 3, 4, 5, 6, 7, 8, 10, 11, 12], [0, 1, 2, 3, 4, 5, 6, 7, 8, 9, 10, 11, 12, 13], [0, 1, 2, 3, 4, 5, 6, 7, 8, 9, 10, 11, 12, 13, 14]]
      [(0, some 27), (1, some 28), (2, some 29), (3, some 30), (4, some 31), (5, some 32), (6, some 33), (7, some 34), (8, some 35), (9, some 36), (10, some 37), (11, some 38), (12, some 39), (13, some 40), (14, some 41), (15, some 42)] (by kernel_rfl) (by kernel_rfl) (fun W W' h1 h2 => h1.trans h2.1) ((Below.refl _ _).drew) ?_ ?_ ?_
    · exact (AllMono.cons RelK.laterM (AllMono.cons RelB.laterM (AllMono.cons RelK.laterM (AllMono.cons RelB.laterM (AllMono.cons RelP.laterM (AllMono.cons Det.laterM (AllMono.cons Det.laterM (AllMono.cons Det.laterM (AllMono.cons Det.laterM (AllMono.cons Det.laterM (AllMono.cons Det.laterM (AllMono.cons Det.laterM (AllMono.cons RelP.laterM (AllMono.cons Det.laterM (AllMono.cons Det.laterM (AllMono.cons Det.laterM AllMono.nil))))))))))))))))
    · refine AllOb.cons ?_ (AllOb.cons ?_ (AllOb.cons ?_ (AllOb.cons ?_ (AllOb.cons ?_ (AllOb.cons ?_ (AllOb.cons ?_ (AllOb.cons ?_ (AllOb.cons ?_ (AllOb.cons ?_ (AllOb.cons ?_ (AllOb.cons ?_ (AllOb.cons ?_ (AllOb.cons ?_ (AllOb.cons ?_ (AllOb.cons ?_ (AllOb.nil))))))))))))))))
      · intro uF W hC' hU aF hF
        have hC : Below v7.heap.size v7 W := hC'
        clear hC'
        simp only [puts] at hF
        subst hF
        go_wp2_with (fail)
        exact ⟨rfl, rfl, (LeM.of_below hC.size (below_alloc _ _)), RelK.new _ jefeK 4 hC.size rfl (by simp [maxLen]) _ rfl⟩
      · intro uF W hC' hU aF hF
        have hC : Below v7.heap.size v7 W := hC'
        clear hC'
        have h27 : (RelK v7.heap.size 4 jefeK) (uF 0) W := hU.1
        clear hU
        simp only [puts, Act.put, List.setIfInBounds_toArray, List.set_cons_zero, List.set_cons_succ] at hF
        generalize uF 0 = x27 at h27 hF
        obtain ⟨g27, m27, rfl, l27, b27, e27, z27⟩ := h27
        subst hF
        have hcv := run_mark (w := W) 4 4 b27
        have HL := LeM.freeze (k := (jefeK.map b8).toArray.size) l27 b27
        clear b27
        go_wp2_with (fail)
        exact ⟨rfl, rfl, HL.1, RelK.relB ⟨_, HL.2.choose, rfl, l27, HL.2.choose_spec, e27, z27⟩⟩
      · intro uF W hC' hU aF hF
        have hC : Below v7.heap.size v7 W := hC'
        clear hC'
        simp only [puts] at hF
        subst hF
        go_wp2_with (fail)
        exact ⟨rfl, rfl, (LeM.of_below hC.size (below_alloc _ _)), RelK.new _ whatT 28 hC.size rfl (by simp [maxLen]) _ rfl⟩
      · intro uF W hC' hU aF hF
        have hC : Below v7.heap.size v7 W := hC'
        clear hC'
        have h29 : (RelK v7.heap.size 28 whatT) (uF 2) W := hU.1
        clear hU
        simp only [puts, Act.put, List.setIfInBounds_toArray, List.set_cons_zero, List.set_cons_succ] at hF
        generalize uF 2 = x29 at h29 hF
        obtain ⟨g29, m29, rfl, l29, b29, e29, z29⟩ := h29
        subst hF
        have hcv := run_mark (w := W) 28 28 b29
        have HL := LeM.freeze (k := (whatT.map b8).toArray.size) l29 b29
        clear b29
        go_wp2_with (fail)
        exact ⟨rfl, rfl, HL.1, RelK.relB ⟨_, HL.2.choose, rfl, l29, HL.2.choose_spec, e29, z29⟩⟩
      · intro uF W hC' hU aF hF
        have hC : Below v7.heap.size v7 W := hC'
        clear hC'
        have h30 : (RelB 28 whatT) (uF 3) W := hU.1
        clear hU
        simp only [puts, Act.put, List.setIfInBounds_toArray, List.set_cons_zero, List.set_cons_succ] at hF
        generalize uF 3 = x30 at h30 hF
        obtain ⟨A30, c30, rfl, s30⟩ := h30
        subst hF
        go_wp2_with (fail)
        exact ⟨rfl, rfl, (LeM.of_below hC.size (below_alloc _ _)), RelP.one s30⟩
      · intro uF W hC' hU aF hF
        have hC : Below v7.heap.size v7 W := hC'
        clear hC'
        have h28 : (RelB 4 jefeK) (uF 1) W := hU.1
        have h31 : (RelP 1 [whatT]) (uF 4) W := hU.2.1
        clear hU
        simp only [puts, Act.put, List.setIfInBounds_toArray, List.set_cons_zero, List.set_cons_succ] at hF
        generalize uF 1 = x28 at h28 hF
        generalize uF 4 = x31 at h31 hF
        obtain ⟨A28, c28, rfl, s28⟩ := h28
        subst hF
        go_wp2_with ((go_at_call 41; refine (tag_p s28 (Nat.le_refl _) (by omega) h31 (by decide) (by omega)).mono ?_; rintro e W1 ⟨rfl, hb⟩))
        exact ⟨rfl, rfl, (LeM.of_below hC.size hb), rfl⟩
      · intro uF W hC' hU aF hF
        have hC : Below v7.heap.size v7 W := hC'
        clear hC'
        have h32 : (Det (.agg (arr8 (hmac jefeK whatT)))) (uF 5) W := hU.1
        clear hU
        simp only [puts, Act.put, List.setIfInBounds_toArray, List.set_cons_zero, List.set_cons_succ] at hF
        generalize uF 5 = x32 at h32 hF
        obtain rfl : x32 = (.agg (arr8 (hmac jefeK whatT))) := h32
        subst hF
        have hx := jefeK1_run
        go_wp2_with (fail)
        exact ⟨rfl, rfl, (LeM.refl _ _), rfl⟩
      · intro uF W hC' hU aF hF
        have hC : Below v7.heap.size v7 W := hC'
        clear hC'
        have h33 : (Det (.int .u8 220)) (uF 6) W := hU.1
        clear hU
        simp only [puts, Act.put, List.setIfInBounds_toArray, List.set_cons_zero, List.set_cons_succ] at hF
        generalize uF 6 = x33 at h33 hF
        obtain rfl : x33 = (.int .u8 220) := h33
        subst hF
        go_wp2_with (fail)
        exact ⟨rfl, rfl, (LeM.refl _ _), rfl⟩
      · intro uF W hC' hU aF hF
        have hC : Below v7.heap.size v7 W := hC'
        clear hC'
        have h34 : (Det (.bool false)) (uF 7) W := hU.1
        clear hU
        simp only [puts, Act.put, List.setIfInBounds_toArray, List.set_cons_zero, List.set_cons_succ] at hF
        generalize uF 7 = x34 at h34 hF
        obtain rfl : x34 = (.bool false) := h34
        subst hF
        go_wp2_with (fail)
        exact ⟨rfl, rfl, (LeM.refl _ _), rfl⟩
      · intro uF W hC' hU aF hF
        have hC : Below v7.heap.size v7 W := hC'
        clear hC'
        have h35 : (Det (.bool false)) (uF 8) W := hU.1
        clear hU
        simp only [puts, Act.put, List.setIfInBounds_toArray, List.set_cons_zero, List.set_cons_succ] at hF
        generalize uF 8 = x35 at h35 hF
        obtain rfl : x35 = (.bool false) := h35
        subst hF
        go_wp2_with (((with_reducible show wpList _ _ _ (Oper.mk _ (Op.load 44 _) _ _ _ _ :: _) _ _); refine wpList_load_whole (by rfl) 44 (.tmp 9) rfl v4.heap.size rfl (arr8 (hmac key (a ++ b))) agg44 (by rw [size_arr8, len_hmac]) 44 (t7.below hC t7.lt) ?_))
        exact ⟨rfl, rfl, (LeM.refl _ _), rfl⟩
      · intro uF W hC' hU aF hF
        have hC : Below v7.heap.size v7 W := hC'
        clear hC'
        have h35 : (Det (.bool false)) (uF 8) W := hU.1
        clear hU
        simp only [puts, Act.put, List.setIfInBounds_toArray, List.set_cons_zero, List.set_cons_succ] at hF
        generalize uF 8 = x35 at h35 hF
        obtain rfl : x35 = (.bool false) := h35
        subst hF
        go_wp2_with (fail)
        exact ⟨rfl, rfl, (LeM.refl _ _), rfl⟩
      · intro uF W hC' hU aF hF
        have hC : Below v7.heap.size v7 W := hC'
        clear hC'
        have h35 : (Det (.bool false)) (uF 8) W := hU.1
        clear hU
        simp only [puts, Act.put, List.setIfInBounds_toArray, List.set_cons_zero, List.set_cons_succ] at hF
        generalize uF 8 = x35 at h35 hF
        obtain rfl : x35 = (.bool false) := h35
        subst hF
        go_wp2_with (fail)
        exact ⟨rfl, rfl, (LeM.refl _ _), rfl⟩
      · intro uF W hC' hU aF hF
        have hC : Below v7.heap.size v7 W := hC'
        clear hC'
        have h38 : (Det (.slice A7 (n1 + n2) c7)) (uF 11) W := hU.1
        have h35 : (Det (.bool false)) (uF 8) W := hU.2.1
        clear hU
        simp only [puts, Act.put, List.setIfInBounds_toArray, List.set_cons_zero, List.set_cons_succ] at hF
        generalize uF 11 = x38 at h38 hF
        generalize uF 8 = x35 at h35 hF
        obtain rfl : x38 = (.slice A7 (n1 + n2) c7) := h38
        obtain rfl : x35 = (.bool false) := h35
        subst hF
        go_wp2_with (fail)
        exact ⟨rfl, rfl, (LeM.of_below hC.size (below_alloc _ _)), RelP.one ((all7.below hC).more hC.size)⟩
      · intro uF W hC' hU aF hF
        have hC : Below v7.heap.size v7 W := hC'
        clear hC'
        have h37 : (Det (.slice A0 n0 c0)) (uF 10) W := hU.1
        have h39 : (RelP 1 [a ++ b]) (uF 12) W := hU.2.1
        have h35 : (Det (.bool false)) (uF 8) W := hU.2.2.1
        clear hU
        simp only [puts, Act.put, List.setIfInBounds_toArray, List.set_cons_zero, List.set_cons_succ] at hF
        generalize uF 10 = x37 at h37 hF
        generalize uF 12 = x39 at h39 hF
        generalize uF 8 = x35 at h35 hF
        obtain rfl : x37 = (.slice A0 n0 c0) := h37
        obtain rfl : x35 = (.bool false) := h35
        subst hF
        go_wp2_with ((go_at_call 41; refine (tag_p (k7.below hC) hC.size (by omega) h39 (by rw [List.flatten_singleton]; omega) (by omega)).mono ?_; rintro e W1 ⟨rfl, hb⟩; rw [List.flatten_singleton]))
        exact ⟨rfl, rfl, (LeM.of_below hC.size hb), rfl⟩
      · intro uF W hC' hU aF hF
        have hC : Below v7.heap.size v7 W := hC'
        clear hC'
        have h36 : (Det (.agg (arr8 (hmac key (a ++ b))))) (uF 9) W := hU.1
        have h40 : (Det (.agg (arr8 (hmac key (a ++ b))))) (uF 13) W := hU.2.1
        have h35 : (Det (.bool false)) (uF 8) W := hU.2.2.1
        clear hU
        simp only [puts, Act.put, List.setIfInBounds_toArray, List.set_cons_zero, List.set_cons_succ] at hF
        generalize uF 9 = x36 at h36 hF
        generalize uF 13 = x40 at h40 hF
        generalize uF 8 = x35 at h35 hF
        obtain rfl : x36 = (.agg (arr8 (hmac key (a ++ b)))) := h36
        obtain rfl : x40 = (.agg (arr8 (hmac key (a ++ b)))) := h40
        obtain rfl : x35 = (.bool false) := h35
        subst hF
        have he := eq44 (hmac key (a ++ b)) (hmac key (a ++ b)) (len_hmac _ _) (len_hmac _ _) true (by simp)
        have hg := guard44
        go_wp2_with (fail)
        exact ⟨rfl, rfl, (LeM.refl _ _), rfl⟩
      · intro uF W hC' hU aF hF
        have hC : Below v7.heap.size v7 W := hC'
        clear hC'
        have h35 : (Det (.bool false)) (uF 8) W := hU.1
        have h41 : (Det (.bool false)) (uF 14) W := hU.2.1
        clear hU
        simp only [puts, Act.put, List.setIfInBounds_toArray, List.set_cons_zero, List.set_cons_succ] at hF
        generalize uF 8 = x35 at h35 hF
        generalize uF 14 = x41 at h41 hF
        obtain rfl : x35 = (.bool false) := h35
        obtain rfl : x41 = (.bool false) := h41
        subst hF
        go_wp2_with (fail)
        exact ⟨rfl, rfl, (LeM.refl _ _), rfl⟩
    intro uF v8 hC' hU aF hF
    have hCv8 : Below v7.heap.size v7 v8 := hC'
    clear hC'
    have h42 : (Det (.bool false)) (uF 15) v8 := hU.2.2.2.2.2.2.2.2.2.2.2.2.2.2.2.1
    clear hU
    simp only [puts, Act.put, List.setIfInBounds_toArray, List.set_cons_zero, List.set_cons_succ] at hF
    generalize uF 0 = x27 at hF
    generalize uF 1 = x28 at hF
    generalize uF 2 = x29 at hF
    generalize uF 3 = x30 at hF
    generalize uF 4 = x31 at hF
    generalize uF 5 = x32 at hF
    generalize uF 6 = x33 at hF
    generalize uF 7 = x34 at hF
    generalize uF 8 = x35 at hF
    generalize uF 9 = x36 at hF
    generalize uF 10 = x37 at hF
    generalize uF 11 = x38 at hF
    generalize uF 12 = x39 at hF
    generalize uF 13 = x40 at hF
    generalize uF 14 = x41 at hF
    generalize uF 15 = x42 at h42 hF
    obtain rfl : x42 = (.bool false) := h42
    subst hF
    have hz8 := hCv8.size
    have h18 := h17.trans (hCv8.mono hz7)
    have hw8 := hw7.trans (hCv8.mono hz7w)
    have k8 := (k7.below hCv8).more hz8
    have all8 := (all7.below hCv8).more hz8
    have t8 := t7.below hCv8 t7.lt
    by_cases hlong : 64 < n0
    · have hli : (64 : Int) < (n0 : Int) := by omega
      go_wp2_with fail
      go_ret
      exact ⟨rfl, hw8⟩
    · have hli : ¬ (64 : Int) < (n0 : Int) := by omega
      obtain ⟨u, hu⟩ : ∃ u : Nat, IntKind.u64.wrap x = (u : Int) := ⟨(IntKind.u64.wrap x).toNat, by rw [Int.toNat_of_nonneg (wrap_u64_nn _)]⟩
      obtain ⟨z, hz⟩ : ∃ z : Nat, z = u % (65 - n0) := ⟨_, rfl⟩
      have hz64 : n0 + z ≤ 64 := by
        have : u % (65 - n0) < 65 - n0 := Nat.mod_lt _ (by omega)
        omega
      have hzr : (u : Int) % (65 - (n0 : Int)) = (z : Int) := by
        have e : (65 - (n0 : Int)) = ((65 - n0 : Nat) : Int) := by omega
        rw [hz, e]; rfl
      have HU := Lib.hid hu
      have HZR := Lib.hid hzr
      have htk : (key ++ zer8 z).take n0 = key := List.take_left' hl0.out
      have hLl : (key ++ zer8 z).length = n0 + z := by rw [List.length_append, hl0.out, len_zer8]
      have HTK := Lib.hid htk
      have HLL := Lib.hid hLl
      clear hz hu hzr htk hLl
      go_wp2_with fail
      refine wp_region_rel (LeL v8.heap.size (key ++ zer8 z)) (fun W => Below v8.heap.size v8 W)
        [RelE, Det (.slice A0 n0 c0), RelL v8.heap.size (key ++ zer8 z) n0, Det (.int .i64 x), Det (.int .u64 (u : Int)), Det (.slice A0 n0 c0), Det (.int .i64 (n0 : Int)), Det (.int .i64 (65 - (n0 : Int))), Det (.int .u64 (65 - (n0 : Int))), Det (.int .u64 (z : Int)), Det (.int .i64 (z : Int)), RelL v8.heap.size (key ++ zer8 z) (n0 + z), RelL v8.heap.size (key ++ zer8 z) (n0 + z)]
        [[], [], [(0, some 46), (1, some 47)], [], [(3, some 49)], [], [(5, some 51)], [(6, some 52)], [(7, some 53)], [(4, some 50), (8, some 54)], [(9, some 55)], [(2, some 48), (10, some 56)], [(11, some 57)]]
        [[], [], [0, 1], [], [3], [], [5], [5, 6], [5, 6, 7], [3, 4, 5, 6, 7, 8], [3, 4, 5, 6, 7, 8, 9], [0, 1, 2, 3, 4, 5, 6, 7, 8, 9, 10], [0, 1, 2, 3, 4, 5, 6, 7, 8, 9, 10, 11]]
        [(0, some 46), (1, some 47), (2, some 48), (3, some 49), (4, some 50), (5, some 51), (6, some 52), (7, some 53), (8, some 54), (9, some 55), (10, some 56), (11, some 57), (12, some 11)] (by kernel_rfl) (by kernel_rfl) (fun W W' h1 h2 => h1.trans h2.1) ((Below.refl _ _).drew) ?_ ?_ ?_
      · exact (AllMono.cons RelE.laterL (AllMono.cons Det.laterL (AllMono.cons RelL.laterL (AllMono.cons Det.laterL (AllMono.cons Det.laterL (AllMono.cons Det.laterL (AllMono.cons Det.laterL (AllMono.cons Det.laterL (AllMono.cons Det.laterL (AllMono.cons Det.laterL (AllMono.cons Det.laterL (AllMono.cons RelL.laterL (AllMono.cons RelL.laterL AllMono.nil)))))))))))))
      · refine AllOb.cons ?_ (AllOb.cons ?_ (AllOb.cons ?_ (AllOb.cons ?_ (AllOb.cons ?_ (AllOb.cons ?_ (AllOb.cons ?_ (AllOb.cons ?_ (AllOb.cons ?_ (AllOb.cons ?_ (AllOb.cons ?_ (AllOb.cons ?_ (AllOb.cons ?_ (AllOb.nil)))))))))))))
        · intro uF W hC' hU aF hF
          have hC : Below v8.heap.size v8 W := hC'
          clear hC'
          simp only [puts] at hF
          subst hF
          go_wp2_with (fail)
          exact ⟨rfl, rfl, (LeL.of_below hC.size (below_alloc _ _)), ⟨_, rfl⟩⟩
        · intro uF W hC' hU aF hF
          have hC : Below v8.heap.size v8 W := hC'
          clear hC'
          simp only [puts] at hF
          subst hF
          go_wp2_with (fail)
          exact ⟨rfl, rfl, (LeL.refl _ _ _), rfl⟩
        · intro uF W hC' hU aF hF
          have hC : Below v8.heap.size v8 W := hC'
          clear hC'
          have h46 : RelE (uF 0) W := hU.1
          have h47 : (Det (.slice A0 n0 c0)) (uF 1) W := hU.2.1
          clear hU
          simp only [puts, Act.put, List.setIfInBounds_toArray, List.set_cons_zero, List.set_cons_succ] at hF
          generalize uF 0 = x46 at h46 hF
          generalize uF 1 = x47 at h47 hF
          obtain ⟨A46, rfl⟩ := h46
          obtain rfl : x47 = (.slice A0 n0 c0) := h47
          subst hF
          go_wp2_with ((at_builtin; refine wpList_append8 rfl (.tmp 46) (.tmp 47) rfl rfl (OwB.nil W v8.heap.size A46) rfl (k8.below hC) (by omega) hC.size n0 (by omega) ?_; intro A9 c9 w9 h9 q9))
          exact ⟨rfl, rfl, (LeL.of_below hC.size (q9.below (OwB.nil W W.heap.size A46) (Below.refl _ _) (Nat.le_refl _) (Nat.le_refl _))), ⟨by rw [HLL.out]; omega, _, _, rfl, by rw [HTK.out]; exact h9⟩⟩
        · intro uF W hC' hU aF hF
          have hC : Below v8.heap.size v8 W := hC'
          clear hC'
          simp only [puts] at hF
          subst hF
          go_wp2_with (fail)
          exact ⟨rfl, rfl, (LeL.refl _ _ _), rfl⟩
        · intro uF W hC' hU aF hF
          have hC : Below v8.heap.size v8 W := hC'
          clear hC'
          have h49 : (Det (.int .i64 x)) (uF 3) W := hU.1
          clear hU
          simp only [puts, Act.put, List.setIfInBounds_toArray, List.set_cons_zero, List.set_cons_succ] at hF
          generalize uF 3 = x49 at h49 hF
          obtain rfl : x49 = (.int .i64 x) := h49
          subst hF
          have hu := HU.out
          go_wp2_with (fail)
          exact ⟨rfl, rfl, (LeL.refl _ _ _), rfl⟩
        · intro uF W hC' hU aF hF
          have hC : Below v8.heap.size v8 W := hC'
          clear hC'
          simp only [puts] at hF
          subst hF
          go_wp2_with (fail)
          exact ⟨rfl, rfl, (LeL.refl _ _ _), rfl⟩
        · intro uF W hC' hU aF hF
          have hC : Below v8.heap.size v8 W := hC'
          clear hC'
          have h51 : (Det (.slice A0 n0 c0)) (uF 5) W := hU.1
          clear hU
          simp only [puts, Act.put, List.setIfInBounds_toArray, List.set_cons_zero, List.set_cons_succ] at hF
          generalize uF 5 = x51 at h51 hF
          obtain rfl : x51 = (.slice A0 n0 c0) := h51
          subst hF
          go_wp2_with (fail)
          exact ⟨rfl, rfl, (LeL.refl _ _ _), rfl⟩
        · intro uF W hC' hU aF hF
          have hC : Below v8.heap.size v8 W := hC'
          clear hC'
          have h52 : (Det (.int .i64 (n0 : Int))) (uF 6) W := hU.1
          clear hU
          simp only [puts, Act.put, List.setIfInBounds_toArray, List.set_cons_zero, List.set_cons_succ] at hF
          generalize uF 6 = x52 at h52 hF
          obtain rfl : x52 = (.int .i64 (n0 : Int)) := h52
          subst hF
          go_wp2_with (fail)
          exact ⟨rfl, rfl, (LeL.refl _ _ _), rfl⟩
        · intro uF W hC' hU aF hF
          have hC : Below v8.heap.size v8 W := hC'
          clear hC'
          have h53 : (Det (.int .i64 (65 - (n0 : Int)))) (uF 7) W := hU.1
          clear hU
          simp only [puts, Act.put, List.setIfInBounds_toArray, List.set_cons_zero, List.set_cons_succ] at hF
          generalize uF 7 = x53 at h53 hF
          obtain rfl : x53 = (.int .i64 (65 - (n0 : Int))) := h53
          subst hF
          go_wp2_with (fail)
          exact ⟨rfl, rfl, (LeL.refl _ _ _), rfl⟩
        · intro uF W hC' hU aF hF
          have hC : Below v8.heap.size v8 W := hC'
          clear hC'
          have h50 : (Det (.int .u64 (u : Int))) (uF 4) W := hU.1
          have h54 : (Det (.int .u64 (65 - (n0 : Int)))) (uF 8) W := hU.2.1
          clear hU
          simp only [puts, Act.put, List.setIfInBounds_toArray, List.set_cons_zero, List.set_cons_succ] at hF
          generalize uF 4 = x50 at h50 hF
          generalize uF 8 = x54 at h54 hF
          obtain rfl : x50 = (.int .u64 (u : Int)) := h50
          obtain rfl : x54 = (.int .u64 (65 - (n0 : Int))) := h54
          subst hF
          have hzr := HZR.out
          go_wp2_with (fail)
          exact ⟨rfl, rfl, (LeL.refl _ _ _), rfl⟩
        · intro uF W hC' hU aF hF
          have hC : Below v8.heap.size v8 W := hC'
          clear hC'
          have h55 : (Det (.int .u64 (z : Int))) (uF 9) W := hU.1
          clear hU
          simp only [puts, Act.put, List.setIfInBounds_toArray, List.set_cons_zero, List.set_cons_succ] at hF
          generalize uF 9 = x55 at h55 hF
          obtain rfl : x55 = (.int .u64 (z : Int)) := h55
          subst hF
          go_wp2_with (fail)
          exact ⟨rfl, rfl, (LeL.refl _ _ _), rfl⟩
        · intro uF W hC' hU aF hF
          have hC : Below v8.heap.size v8 W := hC'
          clear hC'
          have h48 : (RelL v8.heap.size (key ++ zer8 z) n0) (uF 2) W := hU.1
          have h56 : (Det (.int .i64 (z : Int))) (uF 10) W := hU.2.1
          clear hU
          simp only [puts, Act.put, List.setIfInBounds_toArray, List.set_cons_zero, List.set_cons_succ] at hF
          generalize uF 2 = x48 at h48 hF
          generalize uF 10 = x56 at h56 hF
          obtain ⟨l48, A48, c48, rfl, s48⟩ := h48
          obtain rfl : x56 = (.int .i64 (z : Int)) := h56
          subst hF
          go_wp2_with ((at_builtin; refine wpList_append_mk rfl (.tmp 48) (.tmp 56) rfl rfl (by have s := s48; rw [HTK.out] at s; exact s) rfl (by omega) hC.size (n0 + z) rfl ?_; intro A9 c9 w9 h9 q9))
          exact ⟨rfl, rfl, (LeL.went q9 hC.size s48 (by rw [List.take_of_length_le (Nat.le_of_eq HLL.out)]; exact h9) (Nat.le_of_eq HLL.out)), ⟨Nat.le_of_eq HLL.out.symm, _, _, rfl, by rw [List.take_of_length_le (Nat.le_of_eq HLL.out)]; exact h9⟩⟩
        · intro uF W hC' hU aF hF
          have hC : Below v8.heap.size v8 W := hC'
          clear hC'
          have h57 : (RelL v8.heap.size (key ++ zer8 z) (n0 + z)) (uF 11) W := hU.1
          clear hU
          simp only [puts, Act.put, List.setIfInBounds_toArray, List.set_cons_zero, List.set_cons_succ] at hF
          generalize uF 11 = x57 at h57 hF
          subst hF
          go_wp2_with (fail)
          exact ⟨rfl, rfl, (LeL.refl _ _ _), h57⟩
      intro uF v9 hC' hU aF hF
      have hCv9 : Below v8.heap.size v8 v9 := hC'
      clear hC'
      have h11 : (RelL v8.heap.size (key ++ zer8 z) (n0 + z)) (uF 12) v9 := hU.2.2.2.2.2.2.2.2.2.2.2.2.1
      clear hU
      simp only [puts, Act.put, List.setIfInBounds_toArray, List.set_cons_zero, List.set_cons_succ] at hF
      generalize uF 0 = x46 at hF
      generalize uF 1 = x47 at hF
      generalize uF 2 = x48 at hF
      generalize uF 3 = x49 at hF
      generalize uF 4 = x50 at hF
      generalize uF 5 = x51 at hF
      generalize uF 6 = x52 at hF
      generalize uF 7 = x53 at hF
      generalize uF 8 = x54 at hF
      generalize uF 9 = x55 at hF
      generalize uF 10 = x56 at hF
      generalize uF 11 = x57 at hF
      generalize uF 12 = x11 at h11 hF
      obtain ⟨l11, A11, c11, rfl, s11⟩ := h11
      subst hF
      have hz9 := hCv9.size
      have hw9 := hw8.trans (hCv9.mono hw8.size)
      have hw9z := hw9.size
      have all9 := (all8.below hCv9).more hz9
      have t9 := t8.below hCv9 t8.lt
      rw [List.take_of_length_le (Nat.le_of_eq HLL.out)] at s11
      have l9 := OwB.sl s11
      have hsame : hmac (key ++ zer8 z) (a ++ b) = hmac key (a ++ b) := hmac_of_piece (piece_zeros (by rw [hl0.out]; exact hz64)) _
      have HS := Lib.hid hsame
      clear hsame
      go_wp2_with fail
      refine wp_region_rel (fun W W' => Below W.heap.size W W') (fun W => Below v9.heap.size v9 W)
        [Det (.slice A11 (n0 + z) c11), Det (.slice A7 (n1 + n2) c7), RelP 1 [a ++ b], Det (.agg (arr8 (hmac key (a ++ b)))), Det (.agg (arr8 (hmac key (a ++ b)))), Det (.bool true), Det (.bool true)]
        [[], [], [(1, some 59)], [(0, some 58), (2, some 60)], [], [(3, some 61), (4, some 62)], [(5, some 63)]]
        [[], [], [1], [0, 1, 2], [], [0, 1, 2, 3, 4], [0, 1, 2, 3, 4, 5]]
        [(0, some 58), (1, some 59), (2, some 60), (3, some 61), (4, some 62), (5, some 63), (6, some 8)] (by kernel_rfl) (by kernel_rfl) (fun W W' h1 h2 => h1.trans (h2.mono h1.size)) ((Below.refl _ _).drew) ?_ ?_ ?_
      · exact (AllMono.cons Det.later (AllMono.cons Det.later (AllMono.cons RelP.later (AllMono.cons Det.later (AllMono.cons Det.later (AllMono.cons Det.later (AllMono.cons Det.later AllMono.nil)))))))
      · refine AllOb.cons ?_ (AllOb.cons ?_ (AllOb.cons ?_ (AllOb.cons ?_ (AllOb.cons ?_ (AllOb.cons ?_ (AllOb.cons ?_ (AllOb.nil)))))))
        · intro uF W hC' hU aF hF
          have hC : Below v9.heap.size v9 W := hC'
          clear hC'
          simp only [puts] at hF
          subst hF
          go_wp2_with (fail)
          exact ⟨rfl, rfl, (Below.refl _ _), rfl⟩
        · intro uF W hC' hU aF hF
          have hC : Below v9.heap.size v9 W := hC'
          clear hC'
          simp only [puts] at hF
          subst hF
          go_wp2_with (fail)
          exact ⟨rfl, rfl, (Below.refl _ _), rfl⟩
        · intro uF W hC' hU aF hF
          have hC : Below v9.heap.size v9 W := hC'
          clear hC'
          have h59 : (Det (.slice A7 (n1 + n2) c7)) (uF 1) W := hU.1
          clear hU
          simp only [puts, Act.put, List.setIfInBounds_toArray, List.set_cons_zero, List.set_cons_succ] at hF
          generalize uF 1 = x59 at h59 hF
          obtain rfl : x59 = (.slice A7 (n1 + n2) c7) := h59
          subst hF
          go_wp2_with (fail)
          exact ⟨rfl, rfl, (below_alloc _ _), RelP.one ((all9.below hC).more hC.size)⟩
        · intro uF W hC' hU aF hF
          have hC : Below v9.heap.size v9 W := hC'
          clear hC'
          have h58 : (Det (.slice A11 (n0 + z) c11)) (uF 0) W := hU.1
          have h60 : (RelP 1 [a ++ b]) (uF 2) W := hU.2.1
          clear hU
          simp only [puts, Act.put, List.setIfInBounds_toArray, List.set_cons_zero, List.set_cons_succ] at hF
          generalize uF 0 = x58 at h58 hF
          generalize uF 2 = x60 at h60 hF
          obtain rfl : x58 = (.slice A11 (n0 + z) c11) := h58
          subst hF
          go_wp2_with ((go_at_call 41; refine (tag_p (l9.below hC) hC.size (by omega) h60 (by rw [List.flatten_singleton]; omega) (by omega)).mono ?_; rintro e W1 ⟨rfl, hb⟩; rw [List.flatten_singleton, HS.out]))
          exact ⟨rfl, rfl, hb, rfl⟩
        · intro uF W hC' hU aF hF
          have hC : Below v9.heap.size v9 W := hC'
          clear hC'
          simp only [puts] at hF
          subst hF
          go_wp2_with (((with_reducible show wpList _ _ _ (Oper.mk _ (Op.load 44 _) _ _ _ _ :: _) _ _); refine wpList_load_whole (by rfl) 44 (.tmp 9) rfl v4.heap.size rfl (arr8 (hmac key (a ++ b))) agg44 (by rw [size_arr8, len_hmac]) 44 (t9.below hC t9.lt) ?_))
          exact ⟨rfl, rfl, (Below.refl _ _), rfl⟩
        · intro uF W hC' hU aF hF
          have hC : Below v9.heap.size v9 W := hC'
          clear hC'
          have h61 : (Det (.agg (arr8 (hmac key (a ++ b))))) (uF 3) W := hU.1
          have h62 : (Det (.agg (arr8 (hmac key (a ++ b))))) (uF 4) W := hU.2.1
          clear hU
          simp only [puts, Act.put, List.setIfInBounds_toArray, List.set_cons_zero, List.set_cons_succ] at hF
          generalize uF 3 = x61 at h61 hF
          generalize uF 4 = x62 at h62 hF
          obtain rfl : x61 = (.agg (arr8 (hmac key (a ++ b)))) := h61
          obtain rfl : x62 = (.agg (arr8 (hmac key (a ++ b)))) := h62
          subst hF
          have he := eq44 (hmac key (a ++ b)) (hmac key (a ++ b)) (len_hmac _ _) (len_hmac _ _) true (by simp)
          have hg := guard44
          go_wp2_with (fail)
          exact ⟨rfl, rfl, (Below.refl _ _), rfl⟩
        · intro uF W hC' hU aF hF
          have hC : Below v9.heap.size v9 W := hC'
          clear hC'
          have h63 : (Det (.bool true)) (uF 5) W := hU.1
          clear hU
          simp only [puts, Act.put, List.setIfInBounds_toArray, List.set_cons_zero, List.set_cons_succ] at hF
          generalize uF 5 = x63 at h63 hF
          obtain rfl : x63 = (.bool true) := h63
          subst hF
          go_wp2_with (fail)
          exact ⟨rfl, rfl, (Below.refl _ _), rfl⟩
      intro uF v10 hC' hU aF hF
      have hCv10 : Below v9.heap.size v9 v10 := hC'
      clear hC'
      have h8 : (Det (.bool true)) (uF 6) v10 := hU.2.2.2.2.2.2.1
      clear hU
      simp only [puts, Act.put, List.setIfInBounds_toArray, List.set_cons_zero, List.set_cons_succ] at hF
      generalize uF 0 = x58 at hF
      generalize uF 1 = x59 at hF
      generalize uF 2 = x60 at hF
      generalize uF 3 = x61 at hF
      generalize uF 4 = x62 at hF
      generalize uF 5 = x63 at hF
      generalize uF 6 = x8 at h8 hF
      obtain rfl : x8 = (.bool true) := h8
      subst hF
      go_wp2_with fail
      go_ret
      exact ⟨rfl, hw9.trans (hCv10.mono hw9z)⟩
end Go.Proofs.Ytbphoilfiahnpaa.macParted

