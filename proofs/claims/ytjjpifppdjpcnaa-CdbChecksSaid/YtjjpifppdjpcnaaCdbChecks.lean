/-
  CdbChecks: which commands are in range, and what they do (printed by wip/gen_cchk2.py).
-/
import Derived.Test.YtjjpifppdjpcnaaCdbCheck
namespace Go.Proofs.Ytjjpifppdjpcnaa.cdbChecks
open Go.RowKit
set_option linter.unusedVariables false
set_option linter.unusedSimpArgs false
set_option maxRecDepth 100000

set_option maxHeartbeats 4000000 in
theorem core_1 {w : World} {A : Option Addr} {m c : Nat} (unit block many op who key new ty : Int) (st : Bool) (hmx : m ≤ 9223372036854775807) (E : Value) (n : Int) 
    (hchk : m ≤ 16384 → ∀ W, Below w.heap.size w W → Calls Try.prog 31 #[.agg #[.int .i64 1, .int .i64 unit, .int .i64 block, .int .i64 many, .slice A m c, .int .i64 op, .int .i64 who, .int .i64 key, .int .i64 new, .int .i64 ty, .bool st]] W fun e w' => e = .returned E ∧ Below W.heap.size W w') (hnum : ∀ W, Calls Try.prog 33 #[E] W fun e w' => e = .returned (.int .i64 n) ∧ W = w') (href : m ≤ 16384 → ∀ W, Below w.heap.size w W → Calls Try.prog 34 #[.agg #[.int .i64 1, .int .i64 unit, .int .i64 block, .int .i64 many, .slice A m c, .int .i64 op, .int .i64 who, .int .i64 key, .int .i64 new, .int .i64 ty, .bool st]] W fun e w' => e = .returned (.int .i64 n) ∧ Below W.heap.size W w') :
    Calls Try.prog 9 #[.agg #[.int .i64 1, .int .i64 unit, .int .i64 block, .int .i64 many, .slice A m c, .int .i64 op, .int .i64 who, .int .i64 key, .int .i64 new, .int .i64 ty, .bool st]] w fun e w' => e = .returned (.bool true) ∧ Below w.heap.size w w' := by
  obtain ⟨g1, hg1⟩ : ∃ g, g = w.heap.size := ⟨_, rfl⟩
  obtain ⟨v, hv⟩ : ∃ v, v = w.alloc (.cells #[.int .i64 1, .int .i64 unit, .int .i64 block, .int .i64 many, .slice A m c, .int .i64 op, .int .i64 who, .int .i64 key, .int .i64 new, .int .i64 ty, .bool st] 56) := ⟨_, rfl⟩
  have b1 : Blk v g1 56 #[.int .i64 1, .int .i64 unit, .int .i64 block, .int .i64 many, .slice A m c, .int .i64 op, .int .i64 who, .int .i64 key, .int .i64 new, .int .i64 ty, .bool st] := by rw [hv, hg1]; exact Blk.new _ _ _
  have hbv : Below w.heap.size w v := by rw [hv]; exact below_alloc _ _
  have hz := hbv.size
  have hgv := b1.lt
  have HV := Lib.hid hv
  have HG := Lib.hid hg1
  have HB1 := Lib.hid b1
  have HCK := Lib.hid hchk
  have HNM := Lib.hid hnum
  have HRF := Lib.hid href
  clear hv hg1 b1 hchk hnum href
  go_enter Try.func9, Try.ntmps9
  go_wp2_with (first
    | (go_at_call 28; rw [← HV.out, ← HG.out]; refine (example_c v).mono ?_; rintro e w0 ⟨rfl, hb0⟩; have hz0 := hb0.size)
    | (go_at_call 31; refine (check_ok 1 1 2 3 0 0 0 0 0 false (SlB.nil w0 0 none) (Nat.zero_le _) (by omega) (by decide) (by decide) good_ex (by simp)).mono ?_; rintro e w1 ⟨rfl, hb1⟩; have hv1 := hb0.trans (hb1.mono hz0); have hz1 := hv1.size)
    | (go_at_call 28; refine (example_c w1).mono ?_; rintro e w2 ⟨rfl, hb2⟩; have hv2 := hv1.trans (hb2.mono hz1); have hz2 := hv2.size)
    | (go_at_call 32; refine (access_c 1 1 2 3 0 0 0 0 0 false w2).mono ?_; rintro e w3 ⟨rfl, hb3⟩; rw [show accV 1 = 1 from rfl]; have hv3 := hv2.trans (hb3.mono hz2); have hz3 := hv3.size; have b13 := HB1.out.below hv3 hgv)
    | ((with_reducible show wpList _ _ _ (Oper.mk (some 12) (Op.load 56 _) _ _ _ _ :: _) _ _); refine wpList_load_whole (by rfl) 56 (.tmp 1) rfl g1 rfl #[.int .i64 1, .int .i64 unit, .int .i64 block, .int .i64 many, .slice A m c, .int .i64 op, .int .i64 who, .int .i64 key, .int .i64 new, .int .i64 ty, .bool st] aggCm rfl _ (b13) ?_))
  obtain ⟨r, hr⟩ : ∃ r, decide ((16384 : Int) < (m : Int)) = r := ⟨_, rfl⟩
  refine (large15_c 1 unit block many op who key new ty st hmx r hr).mono ?_
  rintro e w4 ⟨rfl, hb4⟩
  have hv4 := hv3.trans (hb4.mono hz3)
  have hz4 := hv4.size
  have HB2 := Lib.hid (HB1.out.below hv4 hgv)
  have HLT := Lib.hid (HB1.out.below hv4 hgv).lt
  have hbw4 := hbv.trans (hv4.mono hz)
  have k0 : w4.cell? ⟨g1, 0, none⟩ = some (.int .i64 1) := by rw [HB2.out.cell]; rfl
  have hgw4 := HLT.out
  clear b13
  cases r with
  | true =>
    go_wp2_with fail
    go_ret
    exact ⟨rfl, hbw4⟩
  | false =>
    have hm16 : m ≤ 16384 := by have := of_decide_eq_false hr; omega
    clear hr
    go_wp2_with fail
    refine wp_region_rel (fun W W' => Below W.heap.size W W') (fun W => Below w4.heap.size w4 W)
      [Det (.agg #[.int .i64 1, .int .i64 unit, .int .i64 block, .int .i64 many, .slice A m c, .int .i64 op, .int .i64 who, .int .i64 key, .int .i64 new, .int .i64 ty, .bool st]), Det E, Det (.int .i64 n), Det (.agg #[.int .i64 1, .int .i64 unit, .int .i64 block, .int .i64 many, .slice A m c, .int .i64 op, .int .i64 who, .int .i64 key, .int .i64 new, .int .i64 ty, .bool st]), Det (.int .i64 n), Det (.bool true), Det (.bool true), Det (.agg #[.int .i64 1, .int .i64 unit, .int .i64 block, .int .i64 many, .slice A m c, .int .i64 op, .int .i64 who, .int .i64 key, .int .i64 new, .int .i64 ty, .bool st]), Det (.int .i64 1), Det (.int .i64 1), Det (.bool true), Det (.bool true), Det (.bool true)]
      [[], [(0, some 22)], [(1, some 23)], [], [(3, some 25)], [(2, some 24), (4, some 26)], [(5, some 27)], [(6, some 28)], [(7, some 29), (6, some 28)], [(6, some 28)], [(8, some 30), (9, some 31), (6, some 28)], [(6, some 28), (10, some 32)], [(11, some 33)]]
      [[], [0], [0, 1], [], [0, 1, 2, 3], [0, 1, 2, 3, 4], [0, 1, 2, 3, 4, 5], [0, 1, 2, 3, 4, 5, 6], [0, 1, 2, 3, 4, 5, 6, 7], [0, 1, 2, 3, 4, 5, 6], [0, 1, 2, 3, 4, 5, 6, 7, 8, 9], [0, 1, 2, 3, 4, 5, 6, 7, 8, 9, 10], [0, 1, 2, 3, 4, 5, 6, 7, 8, 9, 10, 11]]
      [(0, some 22), (1, some 23), (2, some 24), (3, some 25), (4, some 26), (5, some 27), (6, some 28), (7, some 29), (8, some 30), (9, some 31), (10, some 32), (11, some 33), (12, some 2)] (by kernel_rfl) (by kernel_rfl) (fun W W' h1 h2 => h1.trans (h2.mono h1.size)) ((Below.refl _ _).drew) ?_ ?_ ?_
    · exact (AllMono.cons Det.later (AllMono.cons Det.later (AllMono.cons Det.later (AllMono.cons Det.later (AllMono.cons Det.later (AllMono.cons Det.later (AllMono.cons Det.later (AllMono.cons Det.later (AllMono.cons Det.later (AllMono.cons Det.later (AllMono.cons Det.later (AllMono.cons Det.later (AllMono.cons Det.later AllMono.nil)))))))))))))
    · refine AllOb.cons ?_ (AllOb.cons ?_ (AllOb.cons ?_ (AllOb.cons ?_ (AllOb.cons ?_ (AllOb.cons ?_ (AllOb.cons ?_ (AllOb.cons ?_ (AllOb.cons ?_ (AllOb.cons ?_ (AllOb.cons ?_ (AllOb.cons ?_ (AllOb.cons ?_ (AllOb.nil)))))))))))))
      · intro uF W hC' hU aF hF
        have hC : Below w4.heap.size w4 W := hC'
        clear hC'
        simp only [puts] at hF
        subst hF
        go_wp2_with (((with_reducible show wpList _ _ _ (Oper.mk (some 22) (Op.load 56 _) _ _ _ _ :: _) _ _); refine wpList_load_whole (by rfl) 56 (.tmp 1) rfl g1 rfl #[.int .i64 1, .int .i64 unit, .int .i64 block, .int .i64 many, .slice A m c, .int .i64 op, .int .i64 who, .int .i64 key, .int .i64 new, .int .i64 ty, .bool st] aggCm rfl _ (HB2.out.below hC HLT.out) ?_))
        exact ⟨rfl, rfl, (Below.refl _ _), rfl⟩
      · intro uF W hC' hU aF hF
        have hC : Below w4.heap.size w4 W := hC'
        clear hC'
        have h22 : (Det (.agg #[.int .i64 1, .int .i64 unit, .int .i64 block, .int .i64 many, .slice A m c, .int .i64 op, .int .i64 who, .int .i64 key, .int .i64 new, .int .i64 ty, .bool st])) (uF 0) W := hU.1
        clear hU
        simp only [puts, Act.put, List.setIfInBounds_toArray, List.set_cons_zero, List.set_cons_succ] at hF
        generalize uF 0 = x22 at h22 hF
        obtain rfl : x22 = (.agg #[.int .i64 1, .int .i64 unit, .int .i64 block, .int .i64 many, .slice A m c, .int .i64 op, .int .i64 who, .int .i64 key, .int .i64 new, .int .i64 ty, .bool st]) := h22
        subst hF
        go_wp2_with ((go_at_call 31; refine (HCK.out hm16 W (hbw4.trans (hC.mono hbw4.size))).mono ?_; rintro e W1 ⟨rfl, hb⟩))
        exact ⟨rfl, rfl, hb, rfl⟩
      · intro uF W hC' hU aF hF
        have hC : Below w4.heap.size w4 W := hC'
        clear hC'
        have h23 : (Det E) (uF 1) W := hU.1
        clear hU
        simp only [puts, Act.put, List.setIfInBounds_toArray, List.set_cons_zero, List.set_cons_succ] at hF
        generalize uF 1 = x23 at h23 hF
        obtain rfl : x23 = E := h23
        subst hF
        go_wp2_with ((go_at_call 33; refine (HNM.out W).mono ?_; rintro e W1 ⟨rfl, rfl⟩))
        exact ⟨rfl, rfl, (Below.refl _ _), rfl⟩
      · intro uF W hC' hU aF hF
        have hC : Below w4.heap.size w4 W := hC'
        clear hC'
        simp only [puts] at hF
        subst hF
        go_wp2_with (((with_reducible show wpList _ _ _ (Oper.mk (some 25) (Op.load 56 _) _ _ _ _ :: _) _ _); refine wpList_load_whole (by rfl) 56 (.tmp 1) rfl g1 rfl #[.int .i64 1, .int .i64 unit, .int .i64 block, .int .i64 many, .slice A m c, .int .i64 op, .int .i64 who, .int .i64 key, .int .i64 new, .int .i64 ty, .bool st] aggCm rfl _ (HB2.out.below hC HLT.out) ?_))
        exact ⟨rfl, rfl, (Below.refl _ _), rfl⟩
      · intro uF W hC' hU aF hF
        have hC : Below w4.heap.size w4 W := hC'
        clear hC'
        have h25 : (Det (.agg #[.int .i64 1, .int .i64 unit, .int .i64 block, .int .i64 many, .slice A m c, .int .i64 op, .int .i64 who, .int .i64 key, .int .i64 new, .int .i64 ty, .bool st])) (uF 3) W := hU.1
        clear hU
        simp only [puts, Act.put, List.setIfInBounds_toArray, List.set_cons_zero, List.set_cons_succ] at hF
        generalize uF 3 = x25 at h25 hF
        obtain rfl : x25 = (.agg #[.int .i64 1, .int .i64 unit, .int .i64 block, .int .i64 many, .slice A m c, .int .i64 op, .int .i64 who, .int .i64 key, .int .i64 new, .int .i64 ty, .bool st]) := h25
        subst hF
        go_wp2_with ((go_at_call 34; refine (HRF.out hm16 W (hbw4.trans (hC.mono hbw4.size))).mono ?_; rintro e W1 ⟨rfl, hb⟩))
        exact ⟨rfl, rfl, hb, rfl⟩
      · intro uF W hC' hU aF hF
        have hC : Below w4.heap.size w4 W := hC'
        clear hC'
        have h24 : (Det (.int .i64 n)) (uF 2) W := hU.1
        have h26 : (Det (.int .i64 n)) (uF 4) W := hU.2.1
        clear hU
        simp only [puts, Act.put, List.setIfInBounds_toArray, List.set_cons_zero, List.set_cons_succ] at hF
        generalize uF 2 = x24 at h24 hF
        generalize uF 4 = x26 at h26 hF
        obtain rfl : x24 = (.int .i64 n) := h24
        obtain rfl : x26 = (.int .i64 n) := h26
        subst hF
        go_wp2_with (fail)
        exact ⟨rfl, rfl, (Below.refl _ _), rfl⟩
      · intro uF W hC' hU aF hF
        have hC : Below w4.heap.size w4 W := hC'
        clear hC'
        have h27 : (Det (.bool true)) (uF 5) W := hU.1
        clear hU
        simp only [puts, Act.put, List.setIfInBounds_toArray, List.set_cons_zero, List.set_cons_succ] at hF
        generalize uF 5 = x27 at h27 hF
        obtain rfl : x27 = (.bool true) := h27
        subst hF
        go_wp2_with (fail)
        exact ⟨rfl, rfl, (Below.refl _ _), rfl⟩
      · intro uF W hC' hU aF hF
        have hC : Below w4.heap.size w4 W := hC'
        clear hC'
        have h28 : (Det (.bool true)) (uF 6) W := hU.1
        clear hU
        simp only [puts, Act.put, List.setIfInBounds_toArray, List.set_cons_zero, List.set_cons_succ] at hF
        generalize uF 6 = x28 at h28 hF
        obtain rfl : x28 = (.bool true) := h28
        subst hF
        go_wp2_with (((with_reducible show wpList _ _ _ (Oper.mk (some 29) (Op.load 56 _) _ _ _ _ :: _) _ _); refine wpList_load_whole (by rfl) 56 (.tmp 1) rfl g1 rfl #[.int .i64 1, .int .i64 unit, .int .i64 block, .int .i64 many, .slice A m c, .int .i64 op, .int .i64 who, .int .i64 key, .int .i64 new, .int .i64 ty, .bool st] aggCm rfl _ (HB2.out.below hC HLT.out) ?_))
        exact ⟨rfl, rfl, (Below.refl _ _), rfl⟩
      · intro uF W hC' hU aF hF
        have hC : Below w4.heap.size w4 W := hC'
        clear hC'
        have h29 : (Det (.agg #[.int .i64 1, .int .i64 unit, .int .i64 block, .int .i64 many, .slice A m c, .int .i64 op, .int .i64 who, .int .i64 key, .int .i64 new, .int .i64 ty, .bool st])) (uF 7) W := hU.1
        have h28 : (Det (.bool true)) (uF 6) W := hU.2.1
        clear hU
        simp only [puts, Act.put, List.setIfInBounds_toArray, List.set_cons_zero, List.set_cons_succ] at hF
        generalize uF 7 = x29 at h29 hF
        generalize uF 6 = x28 at h28 hF
        obtain rfl : x29 = (.agg #[.int .i64 1, .int .i64 unit, .int .i64 block, .int .i64 many, .slice A m c, .int .i64 op, .int .i64 who, .int .i64 key, .int .i64 new, .int .i64 ty, .bool st]) := h29
        obtain rfl : x28 = (.bool true) := h28
        subst hF
        go_wp2_with ((go_at_call 32; refine (access_c 1 unit block many op who key new ty st W).mono ?_; rintro e W1 ⟨rfl, hb⟩; rw [show accV 1 = 1 from rfl]))
        exact ⟨rfl, rfl, hb, rfl⟩
      · intro uF W hC' hU aF hF
        have hC : Below w4.heap.size w4 W := hC'
        clear hC'
        have h28 : (Det (.bool true)) (uF 6) W := hU.1
        clear hU
        simp only [puts, Act.put, List.setIfInBounds_toArray, List.set_cons_zero, List.set_cons_succ] at hF
        generalize uF 6 = x28 at h28 hF
        obtain rfl : x28 = (.bool true) := h28
        subst hF
        go_wp2_with (fail)
        exact ⟨rfl, rfl, (Below.refl _ _), rfl⟩
      · intro uF W hC' hU aF hF
        have hC : Below w4.heap.size w4 W := hC'
        clear hC'
        have h30 : (Det (.int .i64 1)) (uF 8) W := hU.1
        have h31 : (Det (.int .i64 1)) (uF 9) W := hU.2.1
        have h28 : (Det (.bool true)) (uF 6) W := hU.2.2.1
        clear hU
        simp only [puts, Act.put, List.setIfInBounds_toArray, List.set_cons_zero, List.set_cons_succ] at hF
        generalize uF 8 = x30 at h30 hF
        generalize uF 9 = x31 at h31 hF
        generalize uF 6 = x28 at h28 hF
        obtain rfl : x30 = (.int .i64 1) := h30
        obtain rfl : x31 = (.int .i64 1) := h31
        obtain rfl : x28 = (.bool true) := h28
        subst hF
        go_wp2_with (fail)
        exact ⟨rfl, rfl, (Below.refl _ _), rfl⟩
      · intro uF W hC' hU aF hF
        have hC : Below w4.heap.size w4 W := hC'
        clear hC'
        have h28 : (Det (.bool true)) (uF 6) W := hU.1
        have h32 : (Det (.bool true)) (uF 10) W := hU.2.1
        clear hU
        simp only [puts, Act.put, List.setIfInBounds_toArray, List.set_cons_zero, List.set_cons_succ] at hF
        generalize uF 6 = x28 at h28 hF
        generalize uF 10 = x32 at h32 hF
        obtain rfl : x28 = (.bool true) := h28
        obtain rfl : x32 = (.bool true) := h32
        subst hF
        go_wp2_with (fail)
        exact ⟨rfl, rfl, (Below.refl _ _), rfl⟩
      · intro uF W hC' hU aF hF
        have hC : Below w4.heap.size w4 W := hC'
        clear hC'
        have h33 : (Det (.bool true)) (uF 11) W := hU.1
        clear hU
        simp only [puts, Act.put, List.setIfInBounds_toArray, List.set_cons_zero, List.set_cons_succ] at hF
        generalize uF 11 = x33 at h33 hF
        obtain rfl : x33 = (.bool true) := h33
        subst hF
        go_wp2_with (fail)
        exact ⟨rfl, rfl, (Below.refl _ _), rfl⟩
    intro uF w5 hC' hU aF hF
    have hCw5 : Below w4.heap.size w4 w5 := hC'
    clear hC'
    have h33 : (Det (.bool true)) (uF 11) w5 := hU.2.2.2.2.2.2.2.2.2.2.2.1
    have h2 : (Det (.bool true)) (uF 12) w5 := hU.2.2.2.2.2.2.2.2.2.2.2.2.1
    clear hU
    simp only [puts, Act.put, List.setIfInBounds_toArray, List.set_cons_zero, List.set_cons_succ] at hF
    generalize uF 0 = x22 at hF
    generalize uF 1 = x23 at hF
    generalize uF 2 = x24 at hF
    generalize uF 3 = x25 at hF
    generalize uF 4 = x26 at hF
    generalize uF 5 = x27 at hF
    generalize uF 6 = x28 at hF
    generalize uF 7 = x29 at hF
    generalize uF 8 = x30 at hF
    generalize uF 9 = x31 at hF
    generalize uF 10 = x32 at hF
    generalize uF 11 = x33 at h33 hF
    generalize uF 12 = x2 at h2 hF
    obtain rfl : x33 = (.bool true) := h33
    obtain rfl : x2 = (.bool true) := h2
    subst hF
    go_wp2_with fail
    go_ret
    exact ⟨rfl, hbw4.trans (hCw5.mono hbw4.size)⟩

set_option maxHeartbeats 4000000 in
theorem core_2 {w : World} {A : Option Addr} {m c : Nat} (unit block many op who key new ty : Int) (st : Bool) (hmx : m ≤ 9223372036854775807) (E : Value) (n : Int) 
    (hchk : m ≤ 16384 → ∀ W, Below w.heap.size w W → Calls Try.prog 31 #[.agg #[.int .i64 2, .int .i64 unit, .int .i64 block, .int .i64 many, .slice A m c, .int .i64 op, .int .i64 who, .int .i64 key, .int .i64 new, .int .i64 ty, .bool st]] W fun e w' => e = .returned E ∧ Below W.heap.size W w') (hnum : ∀ W, Calls Try.prog 33 #[E] W fun e w' => e = .returned (.int .i64 n) ∧ W = w') (href : m ≤ 16384 → ∀ W, Below w.heap.size w W → Calls Try.prog 34 #[.agg #[.int .i64 2, .int .i64 unit, .int .i64 block, .int .i64 many, .slice A m c, .int .i64 op, .int .i64 who, .int .i64 key, .int .i64 new, .int .i64 ty, .bool st]] W fun e w' => e = .returned (.int .i64 n) ∧ Below W.heap.size W w') :
    Calls Try.prog 9 #[.agg #[.int .i64 2, .int .i64 unit, .int .i64 block, .int .i64 many, .slice A m c, .int .i64 op, .int .i64 who, .int .i64 key, .int .i64 new, .int .i64 ty, .bool st]] w fun e w' => e = .returned (.bool true) ∧ Below w.heap.size w w' := by
  obtain ⟨g1, hg1⟩ : ∃ g, g = w.heap.size := ⟨_, rfl⟩
  obtain ⟨v, hv⟩ : ∃ v, v = w.alloc (.cells #[.int .i64 2, .int .i64 unit, .int .i64 block, .int .i64 many, .slice A m c, .int .i64 op, .int .i64 who, .int .i64 key, .int .i64 new, .int .i64 ty, .bool st] 56) := ⟨_, rfl⟩
  have b1 : Blk v g1 56 #[.int .i64 2, .int .i64 unit, .int .i64 block, .int .i64 many, .slice A m c, .int .i64 op, .int .i64 who, .int .i64 key, .int .i64 new, .int .i64 ty, .bool st] := by rw [hv, hg1]; exact Blk.new _ _ _
  have hbv : Below w.heap.size w v := by rw [hv]; exact below_alloc _ _
  have hz := hbv.size
  have hgv := b1.lt
  have HV := Lib.hid hv
  have HG := Lib.hid hg1
  have HB1 := Lib.hid b1
  have HCK := Lib.hid hchk
  have HNM := Lib.hid hnum
  have HRF := Lib.hid href
  clear hv hg1 b1 hchk hnum href
  go_enter Try.func9, Try.ntmps9
  go_wp2_with (first
    | (go_at_call 28; rw [← HV.out, ← HG.out]; refine (example_c v).mono ?_; rintro e w0 ⟨rfl, hb0⟩; have hz0 := hb0.size)
    | (go_at_call 31; refine (check_ok 1 1 2 3 0 0 0 0 0 false (SlB.nil w0 0 none) (Nat.zero_le _) (by omega) (by decide) (by decide) good_ex (by simp)).mono ?_; rintro e w1 ⟨rfl, hb1⟩; have hv1 := hb0.trans (hb1.mono hz0); have hz1 := hv1.size)
    | (go_at_call 28; refine (example_c w1).mono ?_; rintro e w2 ⟨rfl, hb2⟩; have hv2 := hv1.trans (hb2.mono hz1); have hz2 := hv2.size)
    | (go_at_call 32; refine (access_c 1 1 2 3 0 0 0 0 0 false w2).mono ?_; rintro e w3 ⟨rfl, hb3⟩; rw [show accV 1 = 1 from rfl]; have hv3 := hv2.trans (hb3.mono hz2); have hz3 := hv3.size; have b13 := HB1.out.below hv3 hgv)
    | ((with_reducible show wpList _ _ _ (Oper.mk (some 12) (Op.load 56 _) _ _ _ _ :: _) _ _); refine wpList_load_whole (by rfl) 56 (.tmp 1) rfl g1 rfl #[.int .i64 2, .int .i64 unit, .int .i64 block, .int .i64 many, .slice A m c, .int .i64 op, .int .i64 who, .int .i64 key, .int .i64 new, .int .i64 ty, .bool st] aggCm rfl _ (b13) ?_))
  obtain ⟨r, hr⟩ : ∃ r, decide ((16384 : Int) < (m : Int)) = r := ⟨_, rfl⟩
  refine (large15_c 2 unit block many op who key new ty st hmx r hr).mono ?_
  rintro e w4 ⟨rfl, hb4⟩
  have hv4 := hv3.trans (hb4.mono hz3)
  have hz4 := hv4.size
  have HB2 := Lib.hid (HB1.out.below hv4 hgv)
  have HLT := Lib.hid (HB1.out.below hv4 hgv).lt
  have hbw4 := hbv.trans (hv4.mono hz)
  have k0 : w4.cell? ⟨g1, 0, none⟩ = some (.int .i64 2) := by rw [HB2.out.cell]; rfl
  have hgw4 := HLT.out
  clear b13
  cases r with
  | true =>
    go_wp2_with fail
    go_ret
    exact ⟨rfl, hbw4⟩
  | false =>
    have hm16 : m ≤ 16384 := by have := of_decide_eq_false hr; omega
    clear hr
    go_wp2_with fail
    refine wp_region_rel (fun W W' => Below W.heap.size W W') (fun W => Below w4.heap.size w4 W)
      [Det (.agg #[.int .i64 2, .int .i64 unit, .int .i64 block, .int .i64 many, .slice A m c, .int .i64 op, .int .i64 who, .int .i64 key, .int .i64 new, .int .i64 ty, .bool st]), Det E, Det (.int .i64 n), Det (.agg #[.int .i64 2, .int .i64 unit, .int .i64 block, .int .i64 many, .slice A m c, .int .i64 op, .int .i64 who, .int .i64 key, .int .i64 new, .int .i64 ty, .bool st]), Det (.int .i64 n), Det (.bool true), Det (.bool true), Det (.agg #[.int .i64 2, .int .i64 unit, .int .i64 block, .int .i64 many, .slice A m c, .int .i64 op, .int .i64 who, .int .i64 key, .int .i64 new, .int .i64 ty, .bool st]), Det (.int .i64 2), Det (.int .i64 2), Det (.bool true), Det (.bool true), Det (.bool true)]
      [[], [(0, some 22)], [(1, some 23)], [], [(3, some 25)], [(2, some 24), (4, some 26)], [(5, some 27)], [(6, some 28)], [(7, some 29), (6, some 28)], [(6, some 28)], [(8, some 30), (9, some 31), (6, some 28)], [(6, some 28), (10, some 32)], [(11, some 33)]]
      [[], [0], [0, 1], [], [0, 1, 2, 3], [0, 1, 2, 3, 4], [0, 1, 2, 3, 4, 5], [0, 1, 2, 3, 4, 5, 6], [0, 1, 2, 3, 4, 5, 6, 7], [0, 1, 2, 3, 4, 5, 6], [0, 1, 2, 3, 4, 5, 6, 7, 8, 9], [0, 1, 2, 3, 4, 5, 6, 7, 8, 9, 10], [0, 1, 2, 3, 4, 5, 6, 7, 8, 9, 10, 11]]
      [(0, some 22), (1, some 23), (2, some 24), (3, some 25), (4, some 26), (5, some 27), (6, some 28), (7, some 29), (8, some 30), (9, some 31), (10, some 32), (11, some 33), (12, some 2)] (by kernel_rfl) (by kernel_rfl) (fun W W' h1 h2 => h1.trans (h2.mono h1.size)) ((Below.refl _ _).drew) ?_ ?_ ?_
    · exact (AllMono.cons Det.later (AllMono.cons Det.later (AllMono.cons Det.later (AllMono.cons Det.later (AllMono.cons Det.later (AllMono.cons Det.later (AllMono.cons Det.later (AllMono.cons Det.later (AllMono.cons Det.later (AllMono.cons Det.later (AllMono.cons Det.later (AllMono.cons Det.later (AllMono.cons Det.later AllMono.nil)))))))))))))
    · refine AllOb.cons ?_ (AllOb.cons ?_ (AllOb.cons ?_ (AllOb.cons ?_ (AllOb.cons ?_ (AllOb.cons ?_ (AllOb.cons ?_ (AllOb.cons ?_ (AllOb.cons ?_ (AllOb.cons ?_ (AllOb.cons ?_ (AllOb.cons ?_ (AllOb.cons ?_ (AllOb.nil)))))))))))))
      · intro uF W hC' hU aF hF
        have hC : Below w4.heap.size w4 W := hC'
        clear hC'
        simp only [puts] at hF
        subst hF
        go_wp2_with (((with_reducible show wpList _ _ _ (Oper.mk (some 22) (Op.load 56 _) _ _ _ _ :: _) _ _); refine wpList_load_whole (by rfl) 56 (.tmp 1) rfl g1 rfl #[.int .i64 2, .int .i64 unit, .int .i64 block, .int .i64 many, .slice A m c, .int .i64 op, .int .i64 who, .int .i64 key, .int .i64 new, .int .i64 ty, .bool st] aggCm rfl _ (HB2.out.below hC HLT.out) ?_))
        exact ⟨rfl, rfl, (Below.refl _ _), rfl⟩
      · intro uF W hC' hU aF hF
        have hC : Below w4.heap.size w4 W := hC'
        clear hC'
        have h22 : (Det (.agg #[.int .i64 2, .int .i64 unit, .int .i64 block, .int .i64 many, .slice A m c, .int .i64 op, .int .i64 who, .int .i64 key, .int .i64 new, .int .i64 ty, .bool st])) (uF 0) W := hU.1
        clear hU
        simp only [puts, Act.put, List.setIfInBounds_toArray, List.set_cons_zero, List.set_cons_succ] at hF
        generalize uF 0 = x22 at h22 hF
        obtain rfl : x22 = (.agg #[.int .i64 2, .int .i64 unit, .int .i64 block, .int .i64 many, .slice A m c, .int .i64 op, .int .i64 who, .int .i64 key, .int .i64 new, .int .i64 ty, .bool st]) := h22
        subst hF
        go_wp2_with ((go_at_call 31; refine (HCK.out hm16 W (hbw4.trans (hC.mono hbw4.size))).mono ?_; rintro e W1 ⟨rfl, hb⟩))
        exact ⟨rfl, rfl, hb, rfl⟩
      · intro uF W hC' hU aF hF
        have hC : Below w4.heap.size w4 W := hC'
        clear hC'
        have h23 : (Det E) (uF 1) W := hU.1
        clear hU
        simp only [puts, Act.put, List.setIfInBounds_toArray, List.set_cons_zero, List.set_cons_succ] at hF
        generalize uF 1 = x23 at h23 hF
        obtain rfl : x23 = E := h23
        subst hF
        go_wp2_with ((go_at_call 33; refine (HNM.out W).mono ?_; rintro e W1 ⟨rfl, rfl⟩))
        exact ⟨rfl, rfl, (Below.refl _ _), rfl⟩
      · intro uF W hC' hU aF hF
        have hC : Below w4.heap.size w4 W := hC'
        clear hC'
        simp only [puts] at hF
        subst hF
        go_wp2_with (((with_reducible show wpList _ _ _ (Oper.mk (some 25) (Op.load 56 _) _ _ _ _ :: _) _ _); refine wpList_load_whole (by rfl) 56 (.tmp 1) rfl g1 rfl #[.int .i64 2, .int .i64 unit, .int .i64 block, .int .i64 many, .slice A m c, .int .i64 op, .int .i64 who, .int .i64 key, .int .i64 new, .int .i64 ty, .bool st] aggCm rfl _ (HB2.out.below hC HLT.out) ?_))
        exact ⟨rfl, rfl, (Below.refl _ _), rfl⟩
      · intro uF W hC' hU aF hF
        have hC : Below w4.heap.size w4 W := hC'
        clear hC'
        have h25 : (Det (.agg #[.int .i64 2, .int .i64 unit, .int .i64 block, .int .i64 many, .slice A m c, .int .i64 op, .int .i64 who, .int .i64 key, .int .i64 new, .int .i64 ty, .bool st])) (uF 3) W := hU.1
        clear hU
        simp only [puts, Act.put, List.setIfInBounds_toArray, List.set_cons_zero, List.set_cons_succ] at hF
        generalize uF 3 = x25 at h25 hF
        obtain rfl : x25 = (.agg #[.int .i64 2, .int .i64 unit, .int .i64 block, .int .i64 many, .slice A m c, .int .i64 op, .int .i64 who, .int .i64 key, .int .i64 new, .int .i64 ty, .bool st]) := h25
        subst hF
        go_wp2_with ((go_at_call 34; refine (HRF.out hm16 W (hbw4.trans (hC.mono hbw4.size))).mono ?_; rintro e W1 ⟨rfl, hb⟩))
        exact ⟨rfl, rfl, hb, rfl⟩
      · intro uF W hC' hU aF hF
        have hC : Below w4.heap.size w4 W := hC'
        clear hC'
        have h24 : (Det (.int .i64 n)) (uF 2) W := hU.1
        have h26 : (Det (.int .i64 n)) (uF 4) W := hU.2.1
        clear hU
        simp only [puts, Act.put, List.setIfInBounds_toArray, List.set_cons_zero, List.set_cons_succ] at hF
        generalize uF 2 = x24 at h24 hF
        generalize uF 4 = x26 at h26 hF
        obtain rfl : x24 = (.int .i64 n) := h24
        obtain rfl : x26 = (.int .i64 n) := h26
        subst hF
        go_wp2_with (fail)
        exact ⟨rfl, rfl, (Below.refl _ _), rfl⟩
      · intro uF W hC' hU aF hF
        have hC : Below w4.heap.size w4 W := hC'
        clear hC'
        have h27 : (Det (.bool true)) (uF 5) W := hU.1
        clear hU
        simp only [puts, Act.put, List.setIfInBounds_toArray, List.set_cons_zero, List.set_cons_succ] at hF
        generalize uF 5 = x27 at h27 hF
        obtain rfl : x27 = (.bool true) := h27
        subst hF
        go_wp2_with (fail)
        exact ⟨rfl, rfl, (Below.refl _ _), rfl⟩
      · intro uF W hC' hU aF hF
        have hC : Below w4.heap.size w4 W := hC'
        clear hC'
        have h28 : (Det (.bool true)) (uF 6) W := hU.1
        clear hU
        simp only [puts, Act.put, List.setIfInBounds_toArray, List.set_cons_zero, List.set_cons_succ] at hF
        generalize uF 6 = x28 at h28 hF
        obtain rfl : x28 = (.bool true) := h28
        subst hF
        go_wp2_with (((with_reducible show wpList _ _ _ (Oper.mk (some 29) (Op.load 56 _) _ _ _ _ :: _) _ _); refine wpList_load_whole (by rfl) 56 (.tmp 1) rfl g1 rfl #[.int .i64 2, .int .i64 unit, .int .i64 block, .int .i64 many, .slice A m c, .int .i64 op, .int .i64 who, .int .i64 key, .int .i64 new, .int .i64 ty, .bool st] aggCm rfl _ (HB2.out.below hC HLT.out) ?_))
        exact ⟨rfl, rfl, (Below.refl _ _), rfl⟩
      · intro uF W hC' hU aF hF
        have hC : Below w4.heap.size w4 W := hC'
        clear hC'
        have h29 : (Det (.agg #[.int .i64 2, .int .i64 unit, .int .i64 block, .int .i64 many, .slice A m c, .int .i64 op, .int .i64 who, .int .i64 key, .int .i64 new, .int .i64 ty, .bool st])) (uF 7) W := hU.1
        have h28 : (Det (.bool true)) (uF 6) W := hU.2.1
        clear hU
        simp only [puts, Act.put, List.setIfInBounds_toArray, List.set_cons_zero, List.set_cons_succ] at hF
        generalize uF 7 = x29 at h29 hF
        generalize uF 6 = x28 at h28 hF
        obtain rfl : x29 = (.agg #[.int .i64 2, .int .i64 unit, .int .i64 block, .int .i64 many, .slice A m c, .int .i64 op, .int .i64 who, .int .i64 key, .int .i64 new, .int .i64 ty, .bool st]) := h29
        obtain rfl : x28 = (.bool true) := h28
        subst hF
        go_wp2_with ((go_at_call 32; refine (access_c 2 unit block many op who key new ty st W).mono ?_; rintro e W1 ⟨rfl, hb⟩; rw [show accV 2 = 2 from rfl]))
        exact ⟨rfl, rfl, hb, rfl⟩
      · intro uF W hC' hU aF hF
        have hC : Below w4.heap.size w4 W := hC'
        clear hC'
        have h28 : (Det (.bool true)) (uF 6) W := hU.1
        clear hU
        simp only [puts, Act.put, List.setIfInBounds_toArray, List.set_cons_zero, List.set_cons_succ] at hF
        generalize uF 6 = x28 at h28 hF
        obtain rfl : x28 = (.bool true) := h28
        subst hF
        go_wp2_with (fail)
        exact ⟨rfl, rfl, (Below.refl _ _), rfl⟩
      · intro uF W hC' hU aF hF
        have hC : Below w4.heap.size w4 W := hC'
        clear hC'
        have h30 : (Det (.int .i64 2)) (uF 8) W := hU.1
        have h31 : (Det (.int .i64 2)) (uF 9) W := hU.2.1
        have h28 : (Det (.bool true)) (uF 6) W := hU.2.2.1
        clear hU
        simp only [puts, Act.put, List.setIfInBounds_toArray, List.set_cons_zero, List.set_cons_succ] at hF
        generalize uF 8 = x30 at h30 hF
        generalize uF 9 = x31 at h31 hF
        generalize uF 6 = x28 at h28 hF
        obtain rfl : x30 = (.int .i64 2) := h30
        obtain rfl : x31 = (.int .i64 2) := h31
        obtain rfl : x28 = (.bool true) := h28
        subst hF
        go_wp2_with (fail)
        exact ⟨rfl, rfl, (Below.refl _ _), rfl⟩
      · intro uF W hC' hU aF hF
        have hC : Below w4.heap.size w4 W := hC'
        clear hC'
        have h28 : (Det (.bool true)) (uF 6) W := hU.1
        have h32 : (Det (.bool true)) (uF 10) W := hU.2.1
        clear hU
        simp only [puts, Act.put, List.setIfInBounds_toArray, List.set_cons_zero, List.set_cons_succ] at hF
        generalize uF 6 = x28 at h28 hF
        generalize uF 10 = x32 at h32 hF
        obtain rfl : x28 = (.bool true) := h28
        obtain rfl : x32 = (.bool true) := h32
        subst hF
        go_wp2_with (fail)
        exact ⟨rfl, rfl, (Below.refl _ _), rfl⟩
      · intro uF W hC' hU aF hF
        have hC : Below w4.heap.size w4 W := hC'
        clear hC'
        have h33 : (Det (.bool true)) (uF 11) W := hU.1
        clear hU
        simp only [puts, Act.put, List.setIfInBounds_toArray, List.set_cons_zero, List.set_cons_succ] at hF
        generalize uF 11 = x33 at h33 hF
        obtain rfl : x33 = (.bool true) := h33
        subst hF
        go_wp2_with (fail)
        exact ⟨rfl, rfl, (Below.refl _ _), rfl⟩
    intro uF w5 hC' hU aF hF
    have hCw5 : Below w4.heap.size w4 w5 := hC'
    clear hC'
    have h33 : (Det (.bool true)) (uF 11) w5 := hU.2.2.2.2.2.2.2.2.2.2.2.1
    have h2 : (Det (.bool true)) (uF 12) w5 := hU.2.2.2.2.2.2.2.2.2.2.2.2.1
    clear hU
    simp only [puts, Act.put, List.setIfInBounds_toArray, List.set_cons_zero, List.set_cons_succ] at hF
    generalize uF 0 = x22 at hF
    generalize uF 1 = x23 at hF
    generalize uF 2 = x24 at hF
    generalize uF 3 = x25 at hF
    generalize uF 4 = x26 at hF
    generalize uF 5 = x27 at hF
    generalize uF 6 = x28 at hF
    generalize uF 7 = x29 at hF
    generalize uF 8 = x30 at hF
    generalize uF 9 = x31 at hF
    generalize uF 10 = x32 at hF
    generalize uF 11 = x33 at h33 hF
    generalize uF 12 = x2 at h2 hF
    obtain rfl : x33 = (.bool true) := h33
    obtain rfl : x2 = (.bool true) := h2
    subst hF
    go_wp2_with fail
    go_ret
    exact ⟨rfl, hbw4.trans (hCw5.mono hbw4.size)⟩

set_option maxHeartbeats 4000000 in
theorem core_3 {w : World} {A : Option Addr} {m c : Nat} (unit block many op who key new ty : Int) (st : Bool) (hmx : m ≤ 9223372036854775807) (E : Value) (n : Int) 
    (hchk : m ≤ 16384 → ∀ W, Below w.heap.size w W → Calls Try.prog 31 #[.agg #[.int .i64 3, .int .i64 unit, .int .i64 block, .int .i64 many, .slice A m c, .int .i64 op, .int .i64 who, .int .i64 key, .int .i64 new, .int .i64 ty, .bool st]] W fun e w' => e = .returned E ∧ Below W.heap.size W w') (hnum : ∀ W, Calls Try.prog 33 #[E] W fun e w' => e = .returned (.int .i64 n) ∧ W = w') (href : m ≤ 16384 → ∀ W, Below w.heap.size w W → Calls Try.prog 34 #[.agg #[.int .i64 3, .int .i64 unit, .int .i64 block, .int .i64 many, .slice A m c, .int .i64 op, .int .i64 who, .int .i64 key, .int .i64 new, .int .i64 ty, .bool st]] W fun e w' => e = .returned (.int .i64 n) ∧ Below W.heap.size W w') :
    Calls Try.prog 9 #[.agg #[.int .i64 3, .int .i64 unit, .int .i64 block, .int .i64 many, .slice A m c, .int .i64 op, .int .i64 who, .int .i64 key, .int .i64 new, .int .i64 ty, .bool st]] w fun e w' => e = .returned (.bool true) ∧ Below w.heap.size w w' := by
  obtain ⟨g1, hg1⟩ : ∃ g, g = w.heap.size := ⟨_, rfl⟩
  obtain ⟨v, hv⟩ : ∃ v, v = w.alloc (.cells #[.int .i64 3, .int .i64 unit, .int .i64 block, .int .i64 many, .slice A m c, .int .i64 op, .int .i64 who, .int .i64 key, .int .i64 new, .int .i64 ty, .bool st] 56) := ⟨_, rfl⟩
  have b1 : Blk v g1 56 #[.int .i64 3, .int .i64 unit, .int .i64 block, .int .i64 many, .slice A m c, .int .i64 op, .int .i64 who, .int .i64 key, .int .i64 new, .int .i64 ty, .bool st] := by rw [hv, hg1]; exact Blk.new _ _ _
  have hbv : Below w.heap.size w v := by rw [hv]; exact below_alloc _ _
  have hz := hbv.size
  have hgv := b1.lt
  have HV := Lib.hid hv
  have HG := Lib.hid hg1
  have HB1 := Lib.hid b1
  have HCK := Lib.hid hchk
  have HNM := Lib.hid hnum
  have HRF := Lib.hid href
  clear hv hg1 b1 hchk hnum href
  go_enter Try.func9, Try.ntmps9
  go_wp2_with (first
    | (go_at_call 28; rw [← HV.out, ← HG.out]; refine (example_c v).mono ?_; rintro e w0 ⟨rfl, hb0⟩; have hz0 := hb0.size)
    | (go_at_call 31; refine (check_ok 1 1 2 3 0 0 0 0 0 false (SlB.nil w0 0 none) (Nat.zero_le _) (by omega) (by decide) (by decide) good_ex (by simp)).mono ?_; rintro e w1 ⟨rfl, hb1⟩; have hv1 := hb0.trans (hb1.mono hz0); have hz1 := hv1.size)
    | (go_at_call 28; refine (example_c w1).mono ?_; rintro e w2 ⟨rfl, hb2⟩; have hv2 := hv1.trans (hb2.mono hz1); have hz2 := hv2.size)
    | (go_at_call 32; refine (access_c 1 1 2 3 0 0 0 0 0 false w2).mono ?_; rintro e w3 ⟨rfl, hb3⟩; rw [show accV 1 = 1 from rfl]; have hv3 := hv2.trans (hb3.mono hz2); have hz3 := hv3.size; have b13 := HB1.out.below hv3 hgv)
    | ((with_reducible show wpList _ _ _ (Oper.mk (some 12) (Op.load 56 _) _ _ _ _ :: _) _ _); refine wpList_load_whole (by rfl) 56 (.tmp 1) rfl g1 rfl #[.int .i64 3, .int .i64 unit, .int .i64 block, .int .i64 many, .slice A m c, .int .i64 op, .int .i64 who, .int .i64 key, .int .i64 new, .int .i64 ty, .bool st] aggCm rfl _ (b13) ?_))
  obtain ⟨r, hr⟩ : ∃ r, decide ((16384 : Int) < (m : Int)) = r := ⟨_, rfl⟩
  refine (large15_c 3 unit block many op who key new ty st hmx r hr).mono ?_
  rintro e w4 ⟨rfl, hb4⟩
  have hv4 := hv3.trans (hb4.mono hz3)
  have hz4 := hv4.size
  have HB2 := Lib.hid (HB1.out.below hv4 hgv)
  have HLT := Lib.hid (HB1.out.below hv4 hgv).lt
  have hbw4 := hbv.trans (hv4.mono hz)
  have k0 : w4.cell? ⟨g1, 0, none⟩ = some (.int .i64 3) := by rw [HB2.out.cell]; rfl
  have hgw4 := HLT.out
  clear b13
  cases r with
  | true =>
    go_wp2_with fail
    go_ret
    exact ⟨rfl, hbw4⟩
  | false =>
    have hm16 : m ≤ 16384 := by have := of_decide_eq_false hr; omega
    clear hr
    go_wp2_with fail
    refine wp_region_rel (fun W W' => Below W.heap.size W W') (fun W => Below w4.heap.size w4 W)
      [Det (.agg #[.int .i64 3, .int .i64 unit, .int .i64 block, .int .i64 many, .slice A m c, .int .i64 op, .int .i64 who, .int .i64 key, .int .i64 new, .int .i64 ty, .bool st]), Det E, Det (.int .i64 n), Det (.agg #[.int .i64 3, .int .i64 unit, .int .i64 block, .int .i64 many, .slice A m c, .int .i64 op, .int .i64 who, .int .i64 key, .int .i64 new, .int .i64 ty, .bool st]), Det (.int .i64 n), Det (.bool true), Det (.bool true), Det (.agg #[.int .i64 3, .int .i64 unit, .int .i64 block, .int .i64 many, .slice A m c, .int .i64 op, .int .i64 who, .int .i64 key, .int .i64 new, .int .i64 ty, .bool st]), Det (.int .i64 2), Det (.int .i64 2), Det (.bool true), Det (.bool true), Det (.bool true)]
      [[], [(0, some 22)], [(1, some 23)], [], [(3, some 25)], [(2, some 24), (4, some 26)], [(5, some 27)], [(6, some 28)], [(7, some 29), (6, some 28)], [(6, some 28)], [(8, some 30), (9, some 31), (6, some 28)], [(6, some 28), (10, some 32)], [(11, some 33)]]
      [[], [0], [0, 1], [], [0, 1, 2, 3], [0, 1, 2, 3, 4], [0, 1, 2, 3, 4, 5], [0, 1, 2, 3, 4, 5, 6], [0, 1, 2, 3, 4, 5, 6, 7], [0, 1, 2, 3, 4, 5, 6], [0, 1, 2, 3, 4, 5, 6, 7, 8, 9], [0, 1, 2, 3, 4, 5, 6, 7, 8, 9, 10], [0, 1, 2, 3, 4, 5, 6, 7, 8, 9, 10, 11]]
      [(0, some 22), (1, some 23), (2, some 24), (3, some 25), (4, some 26), (5, some 27), (6, some 28), (7, some 29), (8, some 30), (9, some 31), (10, some 32), (11, some 33), (12, some 2)] (by kernel_rfl) (by kernel_rfl) (fun W W' h1 h2 => h1.trans (h2.mono h1.size)) ((Below.refl _ _).drew) ?_ ?_ ?_
    · exact (AllMono.cons Det.later (AllMono.cons Det.later (AllMono.cons Det.later (AllMono.cons Det.later (AllMono.cons Det.later (AllMono.cons Det.later (AllMono.cons Det.later (AllMono.cons Det.later (AllMono.cons Det.later (AllMono.cons Det.later (AllMono.cons Det.later (AllMono.cons Det.later (AllMono.cons Det.later AllMono.nil)))))))))))))
    · refine AllOb.cons ?_ (AllOb.cons ?_ (AllOb.cons ?_ (AllOb.cons ?_ (AllOb.cons ?_ (AllOb.cons ?_ (AllOb.cons ?_ (AllOb.cons ?_ (AllOb.cons ?_ (AllOb.cons ?_ (AllOb.cons ?_ (AllOb.cons ?_ (AllOb.cons ?_ (AllOb.nil)))))))))))))
      · intro uF W hC' hU aF hF
        have hC : Below w4.heap.size w4 W := hC'
        clear hC'
        simp only [puts] at hF
        subst hF
        go_wp2_with (((with_reducible show wpList _ _ _ (Oper.mk (some 22) (Op.load 56 _) _ _ _ _ :: _) _ _); refine wpList_load_whole (by rfl) 56 (.tmp 1) rfl g1 rfl #[.int .i64 3, .int .i64 unit, .int .i64 block, .int .i64 many, .slice A m c, .int .i64 op, .int .i64 who, .int .i64 key, .int .i64 new, .int .i64 ty, .bool st] aggCm rfl _ (HB2.out.below hC HLT.out) ?_))
        exact ⟨rfl, rfl, (Below.refl _ _), rfl⟩
      · intro uF W hC' hU aF hF
        have hC : Below w4.heap.size w4 W := hC'
        clear hC'
        have h22 : (Det (.agg #[.int .i64 3, .int .i64 unit, .int .i64 block, .int .i64 many, .slice A m c, .int .i64 op, .int .i64 who, .int .i64 key, .int .i64 new, .int .i64 ty, .bool st])) (uF 0) W := hU.1
        clear hU
        simp only [puts, Act.put, List.setIfInBounds_toArray, List.set_cons_zero, List.set_cons_succ] at hF
        generalize uF 0 = x22 at h22 hF
        obtain rfl : x22 = (.agg #[.int .i64 3, .int .i64 unit, .int .i64 block, .int .i64 many, .slice A m c, .int .i64 op, .int .i64 who, .int .i64 key, .int .i64 new, .int .i64 ty, .bool st]) := h22
        subst hF
        go_wp2_with ((go_at_call 31; refine (HCK.out hm16 W (hbw4.trans (hC.mono hbw4.size))).mono ?_; rintro e W1 ⟨rfl, hb⟩))
        exact ⟨rfl, rfl, hb, rfl⟩
      · intro uF W hC' hU aF hF
        have hC : Below w4.heap.size w4 W := hC'
        clear hC'
        have h23 : (Det E) (uF 1) W := hU.1
        clear hU
        simp only [puts, Act.put, List.setIfInBounds_toArray, List.set_cons_zero, List.set_cons_succ] at hF
        generalize uF 1 = x23 at h23 hF
        obtain rfl : x23 = E := h23
        subst hF
        go_wp2_with ((go_at_call 33; refine (HNM.out W).mono ?_; rintro e W1 ⟨rfl, rfl⟩))
        exact ⟨rfl, rfl, (Below.refl _ _), rfl⟩
      · intro uF W hC' hU aF hF
        have hC : Below w4.heap.size w4 W := hC'
        clear hC'
        simp only [puts] at hF
        subst hF
        go_wp2_with (((with_reducible show wpList _ _ _ (Oper.mk (some 25) (Op.load 56 _) _ _ _ _ :: _) _ _); refine wpList_load_whole (by rfl) 56 (.tmp 1) rfl g1 rfl #[.int .i64 3, .int .i64 unit, .int .i64 block, .int .i64 many, .slice A m c, .int .i64 op, .int .i64 who, .int .i64 key, .int .i64 new, .int .i64 ty, .bool st] aggCm rfl _ (HB2.out.below hC HLT.out) ?_))
        exact ⟨rfl, rfl, (Below.refl _ _), rfl⟩
      · intro uF W hC' hU aF hF
        have hC : Below w4.heap.size w4 W := hC'
        clear hC'
        have h25 : (Det (.agg #[.int .i64 3, .int .i64 unit, .int .i64 block, .int .i64 many, .slice A m c, .int .i64 op, .int .i64 who, .int .i64 key, .int .i64 new, .int .i64 ty, .bool st])) (uF 3) W := hU.1
        clear hU
        simp only [puts, Act.put, List.setIfInBounds_toArray, List.set_cons_zero, List.set_cons_succ] at hF
        generalize uF 3 = x25 at h25 hF
        obtain rfl : x25 = (.agg #[.int .i64 3, .int .i64 unit, .int .i64 block, .int .i64 many, .slice A m c, .int .i64 op, .int .i64 who, .int .i64 key, .int .i64 new, .int .i64 ty, .bool st]) := h25
        subst hF
        go_wp2_with ((go_at_call 34; refine (HRF.out hm16 W (hbw4.trans (hC.mono hbw4.size))).mono ?_; rintro e W1 ⟨rfl, hb⟩))
        exact ⟨rfl, rfl, hb, rfl⟩
      · intro uF W hC' hU aF hF
        have hC : Below w4.heap.size w4 W := hC'
        clear hC'
        have h24 : (Det (.int .i64 n)) (uF 2) W := hU.1
        have h26 : (Det (.int .i64 n)) (uF 4) W := hU.2.1
        clear hU
        simp only [puts, Act.put, List.setIfInBounds_toArray, List.set_cons_zero, List.set_cons_succ] at hF
        generalize uF 2 = x24 at h24 hF
        generalize uF 4 = x26 at h26 hF
        obtain rfl : x24 = (.int .i64 n) := h24
        obtain rfl : x26 = (.int .i64 n) := h26
        subst hF
        go_wp2_with (fail)
        exact ⟨rfl, rfl, (Below.refl _ _), rfl⟩
      · intro uF W hC' hU aF hF
        have hC : Below w4.heap.size w4 W := hC'
        clear hC'
        have h27 : (Det (.bool true)) (uF 5) W := hU.1
        clear hU
        simp only [puts, Act.put, List.setIfInBounds_toArray, List.set_cons_zero, List.set_cons_succ] at hF
        generalize uF 5 = x27 at h27 hF
        obtain rfl : x27 = (.bool true) := h27
        subst hF
        go_wp2_with (fail)
        exact ⟨rfl, rfl, (Below.refl _ _), rfl⟩
      · intro uF W hC' hU aF hF
        have hC : Below w4.heap.size w4 W := hC'
        clear hC'
        have h28 : (Det (.bool true)) (uF 6) W := hU.1
        clear hU
        simp only [puts, Act.put, List.setIfInBounds_toArray, List.set_cons_zero, List.set_cons_succ] at hF
        generalize uF 6 = x28 at h28 hF
        obtain rfl : x28 = (.bool true) := h28
        subst hF
        go_wp2_with (((with_reducible show wpList _ _ _ (Oper.mk (some 29) (Op.load 56 _) _ _ _ _ :: _) _ _); refine wpList_load_whole (by rfl) 56 (.tmp 1) rfl g1 rfl #[.int .i64 3, .int .i64 unit, .int .i64 block, .int .i64 many, .slice A m c, .int .i64 op, .int .i64 who, .int .i64 key, .int .i64 new, .int .i64 ty, .bool st] aggCm rfl _ (HB2.out.below hC HLT.out) ?_))
        exact ⟨rfl, rfl, (Below.refl _ _), rfl⟩
      · intro uF W hC' hU aF hF
        have hC : Below w4.heap.size w4 W := hC'
        clear hC'
        have h29 : (Det (.agg #[.int .i64 3, .int .i64 unit, .int .i64 block, .int .i64 many, .slice A m c, .int .i64 op, .int .i64 who, .int .i64 key, .int .i64 new, .int .i64 ty, .bool st])) (uF 7) W := hU.1
        have h28 : (Det (.bool true)) (uF 6) W := hU.2.1
        clear hU
        simp only [puts, Act.put, List.setIfInBounds_toArray, List.set_cons_zero, List.set_cons_succ] at hF
        generalize uF 7 = x29 at h29 hF
        generalize uF 6 = x28 at h28 hF
        obtain rfl : x29 = (.agg #[.int .i64 3, .int .i64 unit, .int .i64 block, .int .i64 many, .slice A m c, .int .i64 op, .int .i64 who, .int .i64 key, .int .i64 new, .int .i64 ty, .bool st]) := h29
        obtain rfl : x28 = (.bool true) := h28
        subst hF
        go_wp2_with ((go_at_call 32; refine (access_c 3 unit block many op who key new ty st W).mono ?_; rintro e W1 ⟨rfl, hb⟩; rw [show accV 3 = 2 from rfl]))
        exact ⟨rfl, rfl, hb, rfl⟩
      · intro uF W hC' hU aF hF
        have hC : Below w4.heap.size w4 W := hC'
        clear hC'
        have h28 : (Det (.bool true)) (uF 6) W := hU.1
        clear hU
        simp only [puts, Act.put, List.setIfInBounds_toArray, List.set_cons_zero, List.set_cons_succ] at hF
        generalize uF 6 = x28 at h28 hF
        obtain rfl : x28 = (.bool true) := h28
        subst hF
        go_wp2_with (fail)
        exact ⟨rfl, rfl, (Below.refl _ _), rfl⟩
      · intro uF W hC' hU aF hF
        have hC : Below w4.heap.size w4 W := hC'
        clear hC'
        have h30 : (Det (.int .i64 2)) (uF 8) W := hU.1
        have h31 : (Det (.int .i64 2)) (uF 9) W := hU.2.1
        have h28 : (Det (.bool true)) (uF 6) W := hU.2.2.1
        clear hU
        simp only [puts, Act.put, List.setIfInBounds_toArray, List.set_cons_zero, List.set_cons_succ] at hF
        generalize uF 8 = x30 at h30 hF
        generalize uF 9 = x31 at h31 hF
        generalize uF 6 = x28 at h28 hF
        obtain rfl : x30 = (.int .i64 2) := h30
        obtain rfl : x31 = (.int .i64 2) := h31
        obtain rfl : x28 = (.bool true) := h28
        subst hF
        go_wp2_with (fail)
        exact ⟨rfl, rfl, (Below.refl _ _), rfl⟩
      · intro uF W hC' hU aF hF
        have hC : Below w4.heap.size w4 W := hC'
        clear hC'
        have h28 : (Det (.bool true)) (uF 6) W := hU.1
        have h32 : (Det (.bool true)) (uF 10) W := hU.2.1
        clear hU
        simp only [puts, Act.put, List.setIfInBounds_toArray, List.set_cons_zero, List.set_cons_succ] at hF
        generalize uF 6 = x28 at h28 hF
        generalize uF 10 = x32 at h32 hF
        obtain rfl : x28 = (.bool true) := h28
        obtain rfl : x32 = (.bool true) := h32
        subst hF
        go_wp2_with (fail)
        exact ⟨rfl, rfl, (Below.refl _ _), rfl⟩
      · intro uF W hC' hU aF hF
        have hC : Below w4.heap.size w4 W := hC'
        clear hC'
        have h33 : (Det (.bool true)) (uF 11) W := hU.1
        clear hU
        simp only [puts, Act.put, List.setIfInBounds_toArray, List.set_cons_zero, List.set_cons_succ] at hF
        generalize uF 11 = x33 at h33 hF
        obtain rfl : x33 = (.bool true) := h33
        subst hF
        go_wp2_with (fail)
        exact ⟨rfl, rfl, (Below.refl _ _), rfl⟩
    intro uF w5 hC' hU aF hF
    have hCw5 : Below w4.heap.size w4 w5 := hC'
    clear hC'
    have h33 : (Det (.bool true)) (uF 11) w5 := hU.2.2.2.2.2.2.2.2.2.2.2.1
    have h2 : (Det (.bool true)) (uF 12) w5 := hU.2.2.2.2.2.2.2.2.2.2.2.2.1
    clear hU
    simp only [puts, Act.put, List.setIfInBounds_toArray, List.set_cons_zero, List.set_cons_succ] at hF
    generalize uF 0 = x22 at hF
    generalize uF 1 = x23 at hF
    generalize uF 2 = x24 at hF
    generalize uF 3 = x25 at hF
    generalize uF 4 = x26 at hF
    generalize uF 5 = x27 at hF
    generalize uF 6 = x28 at hF
    generalize uF 7 = x29 at hF
    generalize uF 8 = x30 at hF
    generalize uF 9 = x31 at hF
    generalize uF 10 = x32 at hF
    generalize uF 11 = x33 at h33 hF
    generalize uF 12 = x2 at h2 hF
    obtain rfl : x33 = (.bool true) := h33
    obtain rfl : x2 = (.bool true) := h2
    subst hF
    go_wp2_with fail
    go_ret
    exact ⟨rfl, hbw4.trans (hCw5.mono hbw4.size)⟩

set_option maxHeartbeats 4000000 in
theorem core_4 {w : World} {A : Option Addr} {m c : Nat} (unit block many op who key new ty : Int) (st : Bool) (hmx : m ≤ 9223372036854775807) (E : Value) (n : Int) 
    (hchk : m ≤ 16384 → ∀ W, Below w.heap.size w W → Calls Try.prog 31 #[.agg #[.int .i64 4, .int .i64 unit, .int .i64 block, .int .i64 many, .slice A m c, .int .i64 op, .int .i64 who, .int .i64 key, .int .i64 new, .int .i64 ty, .bool st]] W fun e w' => e = .returned E ∧ Below W.heap.size W w') (hnum : ∀ W, Calls Try.prog 33 #[E] W fun e w' => e = .returned (.int .i64 n) ∧ W = w') (href : m ≤ 16384 → ∀ W, Below w.heap.size w W → Calls Try.prog 34 #[.agg #[.int .i64 4, .int .i64 unit, .int .i64 block, .int .i64 many, .slice A m c, .int .i64 op, .int .i64 who, .int .i64 key, .int .i64 new, .int .i64 ty, .bool st]] W fun e w' => e = .returned (.int .i64 n) ∧ Below W.heap.size W w') :
    Calls Try.prog 9 #[.agg #[.int .i64 4, .int .i64 unit, .int .i64 block, .int .i64 many, .slice A m c, .int .i64 op, .int .i64 who, .int .i64 key, .int .i64 new, .int .i64 ty, .bool st]] w fun e w' => e = .returned (.bool true) ∧ Below w.heap.size w w' := by
  obtain ⟨g1, hg1⟩ : ∃ g, g = w.heap.size := ⟨_, rfl⟩
  obtain ⟨v, hv⟩ : ∃ v, v = w.alloc (.cells #[.int .i64 4, .int .i64 unit, .int .i64 block, .int .i64 many, .slice A m c, .int .i64 op, .int .i64 who, .int .i64 key, .int .i64 new, .int .i64 ty, .bool st] 56) := ⟨_, rfl⟩
  have b1 : Blk v g1 56 #[.int .i64 4, .int .i64 unit, .int .i64 block, .int .i64 many, .slice A m c, .int .i64 op, .int .i64 who, .int .i64 key, .int .i64 new, .int .i64 ty, .bool st] := by rw [hv, hg1]; exact Blk.new _ _ _
  have hbv : Below w.heap.size w v := by rw [hv]; exact below_alloc _ _
  have hz := hbv.size
  have hgv := b1.lt
  have HV := Lib.hid hv
  have HG := Lib.hid hg1
  have HB1 := Lib.hid b1
  have HCK := Lib.hid hchk
  have HNM := Lib.hid hnum
  have HRF := Lib.hid href
  clear hv hg1 b1 hchk hnum href
  go_enter Try.func9, Try.ntmps9
  go_wp2_with (first
    | (go_at_call 28; rw [← HV.out, ← HG.out]; refine (example_c v).mono ?_; rintro e w0 ⟨rfl, hb0⟩; have hz0 := hb0.size)
    | (go_at_call 31; refine (check_ok 1 1 2 3 0 0 0 0 0 false (SlB.nil w0 0 none) (Nat.zero_le _) (by omega) (by decide) (by decide) good_ex (by simp)).mono ?_; rintro e w1 ⟨rfl, hb1⟩; have hv1 := hb0.trans (hb1.mono hz0); have hz1 := hv1.size)
    | (go_at_call 28; refine (example_c w1).mono ?_; rintro e w2 ⟨rfl, hb2⟩; have hv2 := hv1.trans (hb2.mono hz1); have hz2 := hv2.size)
    | (go_at_call 32; refine (access_c 1 1 2 3 0 0 0 0 0 false w2).mono ?_; rintro e w3 ⟨rfl, hb3⟩; rw [show accV 1 = 1 from rfl]; have hv3 := hv2.trans (hb3.mono hz2); have hz3 := hv3.size; have b13 := HB1.out.below hv3 hgv)
    | ((with_reducible show wpList _ _ _ (Oper.mk (some 12) (Op.load 56 _) _ _ _ _ :: _) _ _); refine wpList_load_whole (by rfl) 56 (.tmp 1) rfl g1 rfl #[.int .i64 4, .int .i64 unit, .int .i64 block, .int .i64 many, .slice A m c, .int .i64 op, .int .i64 who, .int .i64 key, .int .i64 new, .int .i64 ty, .bool st] aggCm rfl _ (b13) ?_))
  obtain ⟨r, hr⟩ : ∃ r, decide ((16384 : Int) < (m : Int)) = r := ⟨_, rfl⟩
  refine (large15_c 4 unit block many op who key new ty st hmx r hr).mono ?_
  rintro e w4 ⟨rfl, hb4⟩
  have hv4 := hv3.trans (hb4.mono hz3)
  have hz4 := hv4.size
  have HB2 := Lib.hid (HB1.out.below hv4 hgv)
  have HLT := Lib.hid (HB1.out.below hv4 hgv).lt
  have hbw4 := hbv.trans (hv4.mono hz)
  have k0 : w4.cell? ⟨g1, 0, none⟩ = some (.int .i64 4) := by rw [HB2.out.cell]; rfl
  have hgw4 := HLT.out
  clear b13
  cases r with
  | true =>
    go_wp2_with fail
    go_ret
    exact ⟨rfl, hbw4⟩
  | false =>
    have hm16 : m ≤ 16384 := by have := of_decide_eq_false hr; omega
    clear hr
    go_wp2_with fail
    refine wp_region_rel (fun W W' => Below W.heap.size W W') (fun W => Below w4.heap.size w4 W)
      [Det (.agg #[.int .i64 4, .int .i64 unit, .int .i64 block, .int .i64 many, .slice A m c, .int .i64 op, .int .i64 who, .int .i64 key, .int .i64 new, .int .i64 ty, .bool st]), Det E, Det (.int .i64 n), Det (.agg #[.int .i64 4, .int .i64 unit, .int .i64 block, .int .i64 many, .slice A m c, .int .i64 op, .int .i64 who, .int .i64 key, .int .i64 new, .int .i64 ty, .bool st]), Det (.int .i64 n), Det (.bool true), Det (.bool true), Det (.agg #[.int .i64 4, .int .i64 unit, .int .i64 block, .int .i64 many, .slice A m c, .int .i64 op, .int .i64 who, .int .i64 key, .int .i64 new, .int .i64 ty, .bool st]), Det (.int .i64 2), Det (.int .i64 2), Det (.bool true), Det (.bool true), Det (.bool true)]
      [[], [(0, some 22)], [(1, some 23)], [], [(3, some 25)], [(2, some 24), (4, some 26)], [(5, some 27)], [(6, some 28)], [(7, some 29), (6, some 28)], [(6, some 28)], [(8, some 30), (9, some 31), (6, some 28)], [(6, some 28), (10, some 32)], [(11, some 33)]]
      [[], [0], [0, 1], [], [0, 1, 2, 3], [0, 1, 2, 3, 4], [0, 1, 2, 3, 4, 5], [0, 1, 2, 3, 4, 5, 6], [0, 1, 2, 3, 4, 5, 6, 7], [0, 1, 2, 3, 4, 5, 6], [0, 1, 2, 3, 4, 5, 6, 7, 8, 9], [0, 1, 2, 3, 4, 5, 6, 7, 8, 9, 10], [0, 1, 2, 3, 4, 5, 6, 7, 8, 9, 10, 11]]
      [(0, some 22), (1, some 23), (2, some 24), (3, some 25), (4, some 26), (5, some 27), (6, some 28), (7, some 29), (8, some 30), (9, some 31), (10, some 32), (11, some 33), (12, some 2)] (by kernel_rfl) (by kernel_rfl) (fun W W' h1 h2 => h1.trans (h2.mono h1.size)) ((Below.refl _ _).drew) ?_ ?_ ?_
    · exact (AllMono.cons Det.later (AllMono.cons Det.later (AllMono.cons Det.later (AllMono.cons Det.later (AllMono.cons Det.later (AllMono.cons Det.later (AllMono.cons Det.later (AllMono.cons Det.later (AllMono.cons Det.later (AllMono.cons Det.later (AllMono.cons Det.later (AllMono.cons Det.later (AllMono.cons Det.later AllMono.nil)))))))))))))
    · refine AllOb.cons ?_ (AllOb.cons ?_ (AllOb.cons ?_ (AllOb.cons ?_ (AllOb.cons ?_ (AllOb.cons ?_ (AllOb.cons ?_ (AllOb.cons ?_ (AllOb.cons ?_ (AllOb.cons ?_ (AllOb.cons ?_ (AllOb.cons ?_ (AllOb.cons ?_ (AllOb.nil)))))))))))))
      · intro uF W hC' hU aF hF
        have hC : Below w4.heap.size w4 W := hC'
        clear hC'
        simp only [puts] at hF
        subst hF
        go_wp2_with (((with_reducible show wpList _ _ _ (Oper.mk (some 22) (Op.load 56 _) _ _ _ _ :: _) _ _); refine wpList_load_whole (by rfl) 56 (.tmp 1) rfl g1 rfl #[.int .i64 4, .int .i64 unit, .int .i64 block, .int .i64 many, .slice A m c, .int .i64 op, .int .i64 who, .int .i64 key, .int .i64 new, .int .i64 ty, .bool st] aggCm rfl _ (HB2.out.below hC HLT.out) ?_))
        exact ⟨rfl, rfl, (Below.refl _ _), rfl⟩
      · intro uF W hC' hU aF hF
        have hC : Below w4.heap.size w4 W := hC'
        clear hC'
        have h22 : (Det (.agg #[.int .i64 4, .int .i64 unit, .int .i64 block, .int .i64 many, .slice A m c, .int .i64 op, .int .i64 who, .int .i64 key, .int .i64 new, .int .i64 ty, .bool st])) (uF 0) W := hU.1
        clear hU
        simp only [puts, Act.put, List.setIfInBounds_toArray, List.set_cons_zero, List.set_cons_succ] at hF
        generalize uF 0 = x22 at h22 hF
        obtain rfl : x22 = (.agg #[.int .i64 4, .int .i64 unit, .int .i64 block, .int .i64 many, .slice A m c, .int .i64 op, .int .i64 who, .int .i64 key, .int .i64 new, .int .i64 ty, .bool st]) := h22
        subst hF
        go_wp2_with ((go_at_call 31; refine (HCK.out hm16 W (hbw4.trans (hC.mono hbw4.size))).mono ?_; rintro e W1 ⟨rfl, hb⟩))
        exact ⟨rfl, rfl, hb, rfl⟩
      · intro uF W hC' hU aF hF
        have hC : Below w4.heap.size w4 W := hC'
        clear hC'
        have h23 : (Det E) (uF 1) W := hU.1
        clear hU
        simp only [puts, Act.put, List.setIfInBounds_toArray, List.set_cons_zero, List.set_cons_succ] at hF
        generalize uF 1 = x23 at h23 hF
        obtain rfl : x23 = E := h23
        subst hF
        go_wp2_with ((go_at_call 33; refine (HNM.out W).mono ?_; rintro e W1 ⟨rfl, rfl⟩))
        exact ⟨rfl, rfl, (Below.refl _ _), rfl⟩
      · intro uF W hC' hU aF hF
        have hC : Below w4.heap.size w4 W := hC'
        clear hC'
        simp only [puts] at hF
        subst hF
        go_wp2_with (((with_reducible show wpList _ _ _ (Oper.mk (some 25) (Op.load 56 _) _ _ _ _ :: _) _ _); refine wpList_load_whole (by rfl) 56 (.tmp 1) rfl g1 rfl #[.int .i64 4, .int .i64 unit, .int .i64 block, .int .i64 many, .slice A m c, .int .i64 op, .int .i64 who, .int .i64 key, .int .i64 new, .int .i64 ty, .bool st] aggCm rfl _ (HB2.out.below hC HLT.out) ?_))
        exact ⟨rfl, rfl, (Below.refl _ _), rfl⟩
      · intro uF W hC' hU aF hF
        have hC : Below w4.heap.size w4 W := hC'
        clear hC'
        have h25 : (Det (.agg #[.int .i64 4, .int .i64 unit, .int .i64 block, .int .i64 many, .slice A m c, .int .i64 op, .int .i64 who, .int .i64 key, .int .i64 new, .int .i64 ty, .bool st])) (uF 3) W := hU.1
        clear hU
        simp only [puts, Act.put, List.setIfInBounds_toArray, List.set_cons_zero, List.set_cons_succ] at hF
        generalize uF 3 = x25 at h25 hF
        obtain rfl : x25 = (.agg #[.int .i64 4, .int .i64 unit, .int .i64 block, .int .i64 many, .slice A m c, .int .i64 op, .int .i64 who, .int .i64 key, .int .i64 new, .int .i64 ty, .bool st]) := h25
        subst hF
        go_wp2_with ((go_at_call 34; refine (HRF.out hm16 W (hbw4.trans (hC.mono hbw4.size))).mono ?_; rintro e W1 ⟨rfl, hb⟩))
        exact ⟨rfl, rfl, hb, rfl⟩
      · intro uF W hC' hU aF hF
        have hC : Below w4.heap.size w4 W := hC'
        clear hC'
        have h24 : (Det (.int .i64 n)) (uF 2) W := hU.1
        have h26 : (Det (.int .i64 n)) (uF 4) W := hU.2.1
        clear hU
        simp only [puts, Act.put, List.setIfInBounds_toArray, List.set_cons_zero, List.set_cons_succ] at hF
        generalize uF 2 = x24 at h24 hF
        generalize uF 4 = x26 at h26 hF
        obtain rfl : x24 = (.int .i64 n) := h24
        obtain rfl : x26 = (.int .i64 n) := h26
        subst hF
        go_wp2_with (fail)
        exact ⟨rfl, rfl, (Below.refl _ _), rfl⟩
      · intro uF W hC' hU aF hF
        have hC : Below w4.heap.size w4 W := hC'
        clear hC'
        have h27 : (Det (.bool true)) (uF 5) W := hU.1
        clear hU
        simp only [puts, Act.put, List.setIfInBounds_toArray, List.set_cons_zero, List.set_cons_succ] at hF
        generalize uF 5 = x27 at h27 hF
        obtain rfl : x27 = (.bool true) := h27
        subst hF
        go_wp2_with (fail)
        exact ⟨rfl, rfl, (Below.refl _ _), rfl⟩
      · intro uF W hC' hU aF hF
        have hC : Below w4.heap.size w4 W := hC'
        clear hC'
        have h28 : (Det (.bool true)) (uF 6) W := hU.1
        clear hU
        simp only [puts, Act.put, List.setIfInBounds_toArray, List.set_cons_zero, List.set_cons_succ] at hF
        generalize uF 6 = x28 at h28 hF
        obtain rfl : x28 = (.bool true) := h28
        subst hF
        go_wp2_with (((with_reducible show wpList _ _ _ (Oper.mk (some 29) (Op.load 56 _) _ _ _ _ :: _) _ _); refine wpList_load_whole (by rfl) 56 (.tmp 1) rfl g1 rfl #[.int .i64 4, .int .i64 unit, .int .i64 block, .int .i64 many, .slice A m c, .int .i64 op, .int .i64 who, .int .i64 key, .int .i64 new, .int .i64 ty, .bool st] aggCm rfl _ (HB2.out.below hC HLT.out) ?_))
        exact ⟨rfl, rfl, (Below.refl _ _), rfl⟩
      · intro uF W hC' hU aF hF
        have hC : Below w4.heap.size w4 W := hC'
        clear hC'
        have h29 : (Det (.agg #[.int .i64 4, .int .i64 unit, .int .i64 block, .int .i64 many, .slice A m c, .int .i64 op, .int .i64 who, .int .i64 key, .int .i64 new, .int .i64 ty, .bool st])) (uF 7) W := hU.1
        have h28 : (Det (.bool true)) (uF 6) W := hU.2.1
        clear hU
        simp only [puts, Act.put, List.setIfInBounds_toArray, List.set_cons_zero, List.set_cons_succ] at hF
        generalize uF 7 = x29 at h29 hF
        generalize uF 6 = x28 at h28 hF
        obtain rfl : x29 = (.agg #[.int .i64 4, .int .i64 unit, .int .i64 block, .int .i64 many, .slice A m c, .int .i64 op, .int .i64 who, .int .i64 key, .int .i64 new, .int .i64 ty, .bool st]) := h29
        obtain rfl : x28 = (.bool true) := h28
        subst hF
        go_wp2_with ((go_at_call 32; refine (access_c 4 unit block many op who key new ty st W).mono ?_; rintro e W1 ⟨rfl, hb⟩; rw [show accV 4 = 2 from rfl]))
        exact ⟨rfl, rfl, hb, rfl⟩
      · intro uF W hC' hU aF hF
        have hC : Below w4.heap.size w4 W := hC'
        clear hC'
        have h28 : (Det (.bool true)) (uF 6) W := hU.1
        clear hU
        simp only [puts, Act.put, List.setIfInBounds_toArray, List.set_cons_zero, List.set_cons_succ] at hF
        generalize uF 6 = x28 at h28 hF
        obtain rfl : x28 = (.bool true) := h28
        subst hF
        go_wp2_with (fail)
        exact ⟨rfl, rfl, (Below.refl _ _), rfl⟩
      · intro uF W hC' hU aF hF
        have hC : Below w4.heap.size w4 W := hC'
        clear hC'
        have h30 : (Det (.int .i64 2)) (uF 8) W := hU.1
        have h31 : (Det (.int .i64 2)) (uF 9) W := hU.2.1
        have h28 : (Det (.bool true)) (uF 6) W := hU.2.2.1
        clear hU
        simp only [puts, Act.put, List.setIfInBounds_toArray, List.set_cons_zero, List.set_cons_succ] at hF
        generalize uF 8 = x30 at h30 hF
        generalize uF 9 = x31 at h31 hF
        generalize uF 6 = x28 at h28 hF
        obtain rfl : x30 = (.int .i64 2) := h30
        obtain rfl : x31 = (.int .i64 2) := h31
        obtain rfl : x28 = (.bool true) := h28
        subst hF
        go_wp2_with (fail)
        exact ⟨rfl, rfl, (Below.refl _ _), rfl⟩
      · intro uF W hC' hU aF hF
        have hC : Below w4.heap.size w4 W := hC'
        clear hC'
        have h28 : (Det (.bool true)) (uF 6) W := hU.1
        have h32 : (Det (.bool true)) (uF 10) W := hU.2.1
        clear hU
        simp only [puts, Act.put, List.setIfInBounds_toArray, List.set_cons_zero, List.set_cons_succ] at hF
        generalize uF 6 = x28 at h28 hF
        generalize uF 10 = x32 at h32 hF
        obtain rfl : x28 = (.bool true) := h28
        obtain rfl : x32 = (.bool true) := h32
        subst hF
        go_wp2_with (fail)
        exact ⟨rfl, rfl, (Below.refl _ _), rfl⟩
      · intro uF W hC' hU aF hF
        have hC : Below w4.heap.size w4 W := hC'
        clear hC'
        have h33 : (Det (.bool true)) (uF 11) W := hU.1
        clear hU
        simp only [puts, Act.put, List.setIfInBounds_toArray, List.set_cons_zero, List.set_cons_succ] at hF
        generalize uF 11 = x33 at h33 hF
        obtain rfl : x33 = (.bool true) := h33
        subst hF
        go_wp2_with (fail)
        exact ⟨rfl, rfl, (Below.refl _ _), rfl⟩
    intro uF w5 hC' hU aF hF
    have hCw5 : Below w4.heap.size w4 w5 := hC'
    clear hC'
    have h33 : (Det (.bool true)) (uF 11) w5 := hU.2.2.2.2.2.2.2.2.2.2.2.1
    have h2 : (Det (.bool true)) (uF 12) w5 := hU.2.2.2.2.2.2.2.2.2.2.2.2.1
    clear hU
    simp only [puts, Act.put, List.setIfInBounds_toArray, List.set_cons_zero, List.set_cons_succ] at hF
    generalize uF 0 = x22 at hF
    generalize uF 1 = x23 at hF
    generalize uF 2 = x24 at hF
    generalize uF 3 = x25 at hF
    generalize uF 4 = x26 at hF
    generalize uF 5 = x27 at hF
    generalize uF 6 = x28 at hF
    generalize uF 7 = x29 at hF
    generalize uF 8 = x30 at hF
    generalize uF 9 = x31 at hF
    generalize uF 10 = x32 at hF
    generalize uF 11 = x33 at h33 hF
    generalize uF 12 = x2 at h2 hF
    obtain rfl : x33 = (.bool true) := h33
    obtain rfl : x2 = (.bool true) := h2
    subst hF
    go_wp2_with fail
    go_ret
    exact ⟨rfl, hbw4.trans (hCw5.mono hbw4.size)⟩

set_option maxHeartbeats 4000000 in
theorem core_o {w : World} {A : Option Addr} {m c : Nat} (kind : Int) (unit block many op who key new ty : Int) (st : Bool) (hmx : m ≤ 9223372036854775807) (E : Value) (n : Int) (e1 : (kind == 1) = false) (e2 : (kind == 2) = false) (e3 : (kind == 3) = false) (e4 : (kind == 4) = false) (ha : accV kind = 0)
    (hchk : m ≤ 16384 → ∀ W, Below w.heap.size w W → Calls Try.prog 31 #[.agg #[.int .i64 kind, .int .i64 unit, .int .i64 block, .int .i64 many, .slice A m c, .int .i64 op, .int .i64 who, .int .i64 key, .int .i64 new, .int .i64 ty, .bool st]] W fun e w' => e = .returned E ∧ Below W.heap.size W w') (hnum : ∀ W, Calls Try.prog 33 #[E] W fun e w' => e = .returned (.int .i64 n) ∧ W = w') (href : m ≤ 16384 → ∀ W, Below w.heap.size w W → Calls Try.prog 34 #[.agg #[.int .i64 kind, .int .i64 unit, .int .i64 block, .int .i64 many, .slice A m c, .int .i64 op, .int .i64 who, .int .i64 key, .int .i64 new, .int .i64 ty, .bool st]] W fun e w' => e = .returned (.int .i64 n) ∧ Below W.heap.size W w') :
    Calls Try.prog 9 #[.agg #[.int .i64 kind, .int .i64 unit, .int .i64 block, .int .i64 many, .slice A m c, .int .i64 op, .int .i64 who, .int .i64 key, .int .i64 new, .int .i64 ty, .bool st]] w fun e w' => e = .returned (.bool true) ∧ Below w.heap.size w w' := by
  obtain ⟨g1, hg1⟩ : ∃ g, g = w.heap.size := ⟨_, rfl⟩
  obtain ⟨v, hv⟩ : ∃ v, v = w.alloc (.cells #[.int .i64 kind, .int .i64 unit, .int .i64 block, .int .i64 many, .slice A m c, .int .i64 op, .int .i64 who, .int .i64 key, .int .i64 new, .int .i64 ty, .bool st] 56) := ⟨_, rfl⟩
  have b1 : Blk v g1 56 #[.int .i64 kind, .int .i64 unit, .int .i64 block, .int .i64 many, .slice A m c, .int .i64 op, .int .i64 who, .int .i64 key, .int .i64 new, .int .i64 ty, .bool st] := by rw [hv, hg1]; exact Blk.new _ _ _
  have hbv : Below w.heap.size w v := by rw [hv]; exact below_alloc _ _
  have hz := hbv.size
  have hgv := b1.lt
  have HV := Lib.hid hv
  have HG := Lib.hid hg1
  have HB1 := Lib.hid b1
  have HCK := Lib.hid hchk
  have HNM := Lib.hid hnum
  have HRF := Lib.hid href
  clear hv hg1 b1 hchk hnum href
  go_enter Try.func9, Try.ntmps9
  go_wp2_with (first
    | (go_at_call 28; rw [← HV.out, ← HG.out]; refine (example_c v).mono ?_; rintro e w0 ⟨rfl, hb0⟩; have hz0 := hb0.size)
    | (go_at_call 31; refine (check_ok 1 1 2 3 0 0 0 0 0 false (SlB.nil w0 0 none) (Nat.zero_le _) (by omega) (by decide) (by decide) good_ex (by simp)).mono ?_; rintro e w1 ⟨rfl, hb1⟩; have hv1 := hb0.trans (hb1.mono hz0); have hz1 := hv1.size)
    | (go_at_call 28; refine (example_c w1).mono ?_; rintro e w2 ⟨rfl, hb2⟩; have hv2 := hv1.trans (hb2.mono hz1); have hz2 := hv2.size)
    | (go_at_call 32; refine (access_c 1 1 2 3 0 0 0 0 0 false w2).mono ?_; rintro e w3 ⟨rfl, hb3⟩; rw [show accV 1 = 1 from rfl]; have hv3 := hv2.trans (hb3.mono hz2); have hz3 := hv3.size; have b13 := HB1.out.below hv3 hgv)
    | ((with_reducible show wpList _ _ _ (Oper.mk (some 12) (Op.load 56 _) _ _ _ _ :: _) _ _); refine wpList_load_whole (by rfl) 56 (.tmp 1) rfl g1 rfl #[.int .i64 kind, .int .i64 unit, .int .i64 block, .int .i64 many, .slice A m c, .int .i64 op, .int .i64 who, .int .i64 key, .int .i64 new, .int .i64 ty, .bool st] aggCm rfl _ (b13) ?_))
  obtain ⟨r, hr⟩ : ∃ r, decide ((16384 : Int) < (m : Int)) = r := ⟨_, rfl⟩
  refine (large15_c kind unit block many op who key new ty st hmx r hr).mono ?_
  rintro e w4 ⟨rfl, hb4⟩
  have hv4 := hv3.trans (hb4.mono hz3)
  have hz4 := hv4.size
  have HB2 := Lib.hid (HB1.out.below hv4 hgv)
  have HLT := Lib.hid (HB1.out.below hv4 hgv).lt
  have hbw4 := hbv.trans (hv4.mono hz)
  have k0 : w4.cell? ⟨g1, 0, none⟩ = some (.int .i64 kind) := by rw [HB2.out.cell]; rfl
  have hgw4 := HLT.out
  clear b13
  cases r with
  | true =>
    go_wp2_with fail
    go_ret
    exact ⟨rfl, hbw4⟩
  | false =>
    have hm16 : m ≤ 16384 := by have := of_decide_eq_false hr; omega
    clear hr
    go_wp2_with fail
    refine wp_region_rel (fun W W' => Below W.heap.size W W') (fun W => Below w4.heap.size w4 W)
      [Det (.agg #[.int .i64 kind, .int .i64 unit, .int .i64 block, .int .i64 many, .slice A m c, .int .i64 op, .int .i64 who, .int .i64 key, .int .i64 new, .int .i64 ty, .bool st]), Det E, Det (.int .i64 n), Det (.agg #[.int .i64 kind, .int .i64 unit, .int .i64 block, .int .i64 many, .slice A m c, .int .i64 op, .int .i64 who, .int .i64 key, .int .i64 new, .int .i64 ty, .bool st]), Det (.int .i64 n), Det (.bool true), Det (.bool true), Det (.agg #[.int .i64 kind, .int .i64 unit, .int .i64 block, .int .i64 many, .slice A m c, .int .i64 op, .int .i64 who, .int .i64 key, .int .i64 new, .int .i64 ty, .bool st]), Det (.int .i64 0), Det (.int .i64 0), Det (.bool true), Det (.bool true), Det (.bool true)]
      [[], [(0, some 22)], [(1, some 23)], [], [(3, some 25)], [(2, some 24), (4, some 26)], [(5, some 27)], [(6, some 28)], [(7, some 29), (6, some 28)], [(6, some 28)], [(8, some 30), (9, some 31), (6, some 28)], [(6, some 28), (10, some 32)], [(11, some 33)]]
      [[], [0], [0, 1], [], [0, 1, 2, 3], [0, 1, 2, 3, 4], [0, 1, 2, 3, 4, 5], [0, 1, 2, 3, 4, 5, 6], [0, 1, 2, 3, 4, 5, 6, 7], [0, 1, 2, 3, 4, 5, 6], [0, 1, 2, 3, 4, 5, 6, 7, 8, 9], [0, 1, 2, 3, 4, 5, 6, 7, 8, 9, 10], [0, 1, 2, 3, 4, 5, 6, 7, 8, 9, 10, 11]]
      [(0, some 22), (1, some 23), (2, some 24), (3, some 25), (4, some 26), (5, some 27), (6, some 28), (7, some 29), (8, some 30), (9, some 31), (10, some 32), (11, some 33), (12, some 2)] (by kernel_rfl) (by kernel_rfl) (fun W W' h1 h2 => h1.trans (h2.mono h1.size)) ((Below.refl _ _).drew) ?_ ?_ ?_
    · exact (AllMono.cons Det.later (AllMono.cons Det.later (AllMono.cons Det.later (AllMono.cons Det.later (AllMono.cons Det.later (AllMono.cons Det.later (AllMono.cons Det.later (AllMono.cons Det.later (AllMono.cons Det.later (AllMono.cons Det.later (AllMono.cons Det.later (AllMono.cons Det.later (AllMono.cons Det.later AllMono.nil)))))))))))))
    · refine AllOb.cons ?_ (AllOb.cons ?_ (AllOb.cons ?_ (AllOb.cons ?_ (AllOb.cons ?_ (AllOb.cons ?_ (AllOb.cons ?_ (AllOb.cons ?_ (AllOb.cons ?_ (AllOb.cons ?_ (AllOb.cons ?_ (AllOb.cons ?_ (AllOb.cons ?_ (AllOb.nil)))))))))))))
      · intro uF W hC' hU aF hF
        have hC : Below w4.heap.size w4 W := hC'
        clear hC'
        simp only [puts] at hF
        subst hF
        go_wp2_with (((with_reducible show wpList _ _ _ (Oper.mk (some 22) (Op.load 56 _) _ _ _ _ :: _) _ _); refine wpList_load_whole (by rfl) 56 (.tmp 1) rfl g1 rfl #[.int .i64 kind, .int .i64 unit, .int .i64 block, .int .i64 many, .slice A m c, .int .i64 op, .int .i64 who, .int .i64 key, .int .i64 new, .int .i64 ty, .bool st] aggCm rfl _ (HB2.out.below hC HLT.out) ?_))
        exact ⟨rfl, rfl, (Below.refl _ _), rfl⟩
      · intro uF W hC' hU aF hF
        have hC : Below w4.heap.size w4 W := hC'
        clear hC'
        have h22 : (Det (.agg #[.int .i64 kind, .int .i64 unit, .int .i64 block, .int .i64 many, .slice A m c, .int .i64 op, .int .i64 who, .int .i64 key, .int .i64 new, .int .i64 ty, .bool st])) (uF 0) W := hU.1
        clear hU
        simp only [puts, Act.put, List.setIfInBounds_toArray, List.set_cons_zero, List.set_cons_succ] at hF
        generalize uF 0 = x22 at h22 hF
        obtain rfl : x22 = (.agg #[.int .i64 kind, .int .i64 unit, .int .i64 block, .int .i64 many, .slice A m c, .int .i64 op, .int .i64 who, .int .i64 key, .int .i64 new, .int .i64 ty, .bool st]) := h22
        subst hF
        go_wp2_with ((go_at_call 31; refine (HCK.out hm16 W (hbw4.trans (hC.mono hbw4.size))).mono ?_; rintro e W1 ⟨rfl, hb⟩))
        exact ⟨rfl, rfl, hb, rfl⟩
      · intro uF W hC' hU aF hF
        have hC : Below w4.heap.size w4 W := hC'
        clear hC'
        have h23 : (Det E) (uF 1) W := hU.1
        clear hU
        simp only [puts, Act.put, List.setIfInBounds_toArray, List.set_cons_zero, List.set_cons_succ] at hF
        generalize uF 1 = x23 at h23 hF
        obtain rfl : x23 = E := h23
        subst hF
        go_wp2_with ((go_at_call 33; refine (HNM.out W).mono ?_; rintro e W1 ⟨rfl, rfl⟩))
        exact ⟨rfl, rfl, (Below.refl _ _), rfl⟩
      · intro uF W hC' hU aF hF
        have hC : Below w4.heap.size w4 W := hC'
        clear hC'
        simp only [puts] at hF
        subst hF
        go_wp2_with (((with_reducible show wpList _ _ _ (Oper.mk (some 25) (Op.load 56 _) _ _ _ _ :: _) _ _); refine wpList_load_whole (by rfl) 56 (.tmp 1) rfl g1 rfl #[.int .i64 kind, .int .i64 unit, .int .i64 block, .int .i64 many, .slice A m c, .int .i64 op, .int .i64 who, .int .i64 key, .int .i64 new, .int .i64 ty, .bool st] aggCm rfl _ (HB2.out.below hC HLT.out) ?_))
        exact ⟨rfl, rfl, (Below.refl _ _), rfl⟩
      · intro uF W hC' hU aF hF
        have hC : Below w4.heap.size w4 W := hC'
        clear hC'
        have h25 : (Det (.agg #[.int .i64 kind, .int .i64 unit, .int .i64 block, .int .i64 many, .slice A m c, .int .i64 op, .int .i64 who, .int .i64 key, .int .i64 new, .int .i64 ty, .bool st])) (uF 3) W := hU.1
        clear hU
        simp only [puts, Act.put, List.setIfInBounds_toArray, List.set_cons_zero, List.set_cons_succ] at hF
        generalize uF 3 = x25 at h25 hF
        obtain rfl : x25 = (.agg #[.int .i64 kind, .int .i64 unit, .int .i64 block, .int .i64 many, .slice A m c, .int .i64 op, .int .i64 who, .int .i64 key, .int .i64 new, .int .i64 ty, .bool st]) := h25
        subst hF
        go_wp2_with ((go_at_call 34; refine (HRF.out hm16 W (hbw4.trans (hC.mono hbw4.size))).mono ?_; rintro e W1 ⟨rfl, hb⟩))
        exact ⟨rfl, rfl, hb, rfl⟩
      · intro uF W hC' hU aF hF
        have hC : Below w4.heap.size w4 W := hC'
        clear hC'
        have h24 : (Det (.int .i64 n)) (uF 2) W := hU.1
        have h26 : (Det (.int .i64 n)) (uF 4) W := hU.2.1
        clear hU
        simp only [puts, Act.put, List.setIfInBounds_toArray, List.set_cons_zero, List.set_cons_succ] at hF
        generalize uF 2 = x24 at h24 hF
        generalize uF 4 = x26 at h26 hF
        obtain rfl : x24 = (.int .i64 n) := h24
        obtain rfl : x26 = (.int .i64 n) := h26
        subst hF
        go_wp2_with (fail)
        exact ⟨rfl, rfl, (Below.refl _ _), rfl⟩
      · intro uF W hC' hU aF hF
        have hC : Below w4.heap.size w4 W := hC'
        clear hC'
        have h27 : (Det (.bool true)) (uF 5) W := hU.1
        clear hU
        simp only [puts, Act.put, List.setIfInBounds_toArray, List.set_cons_zero, List.set_cons_succ] at hF
        generalize uF 5 = x27 at h27 hF
        obtain rfl : x27 = (.bool true) := h27
        subst hF
        go_wp2_with (fail)
        exact ⟨rfl, rfl, (Below.refl _ _), rfl⟩
      · intro uF W hC' hU aF hF
        have hC : Below w4.heap.size w4 W := hC'
        clear hC'
        have h28 : (Det (.bool true)) (uF 6) W := hU.1
        clear hU
        simp only [puts, Act.put, List.setIfInBounds_toArray, List.set_cons_zero, List.set_cons_succ] at hF
        generalize uF 6 = x28 at h28 hF
        obtain rfl : x28 = (.bool true) := h28
        subst hF
        go_wp2_with (((with_reducible show wpList _ _ _ (Oper.mk (some 29) (Op.load 56 _) _ _ _ _ :: _) _ _); refine wpList_load_whole (by rfl) 56 (.tmp 1) rfl g1 rfl #[.int .i64 kind, .int .i64 unit, .int .i64 block, .int .i64 many, .slice A m c, .int .i64 op, .int .i64 who, .int .i64 key, .int .i64 new, .int .i64 ty, .bool st] aggCm rfl _ (HB2.out.below hC HLT.out) ?_))
        exact ⟨rfl, rfl, (Below.refl _ _), rfl⟩
      · intro uF W hC' hU aF hF
        have hC : Below w4.heap.size w4 W := hC'
        clear hC'
        have h29 : (Det (.agg #[.int .i64 kind, .int .i64 unit, .int .i64 block, .int .i64 many, .slice A m c, .int .i64 op, .int .i64 who, .int .i64 key, .int .i64 new, .int .i64 ty, .bool st])) (uF 7) W := hU.1
        have h28 : (Det (.bool true)) (uF 6) W := hU.2.1
        clear hU
        simp only [puts, Act.put, List.setIfInBounds_toArray, List.set_cons_zero, List.set_cons_succ] at hF
        generalize uF 7 = x29 at h29 hF
        generalize uF 6 = x28 at h28 hF
        obtain rfl : x29 = (.agg #[.int .i64 kind, .int .i64 unit, .int .i64 block, .int .i64 many, .slice A m c, .int .i64 op, .int .i64 who, .int .i64 key, .int .i64 new, .int .i64 ty, .bool st]) := h29
        obtain rfl : x28 = (.bool true) := h28
        subst hF
        go_wp2_with ((go_at_call 32; refine (access_c kind unit block many op who key new ty st W).mono ?_; rintro e W1 ⟨rfl, hb⟩; rw [ha]))
        exact ⟨rfl, rfl, hb, rfl⟩
      · intro uF W hC' hU aF hF
        have hC : Below w4.heap.size w4 W := hC'
        clear hC'
        have h28 : (Det (.bool true)) (uF 6) W := hU.1
        clear hU
        simp only [puts, Act.put, List.setIfInBounds_toArray, List.set_cons_zero, List.set_cons_succ] at hF
        generalize uF 6 = x28 at h28 hF
        obtain rfl : x28 = (.bool true) := h28
        subst hF
        go_wp2_with (fail)
        exact ⟨rfl, rfl, (Below.refl _ _), rfl⟩
      · intro uF W hC' hU aF hF
        have hC : Below w4.heap.size w4 W := hC'
        clear hC'
        have h30 : (Det (.int .i64 0)) (uF 8) W := hU.1
        have h31 : (Det (.int .i64 0)) (uF 9) W := hU.2.1
        have h28 : (Det (.bool true)) (uF 6) W := hU.2.2.1
        clear hU
        simp only [puts, Act.put, List.setIfInBounds_toArray, List.set_cons_zero, List.set_cons_succ] at hF
        generalize uF 8 = x30 at h30 hF
        generalize uF 9 = x31 at h31 hF
        generalize uF 6 = x28 at h28 hF
        obtain rfl : x30 = (.int .i64 0) := h30
        obtain rfl : x31 = (.int .i64 0) := h31
        obtain rfl : x28 = (.bool true) := h28
        subst hF
        go_wp2_with (fail)
        exact ⟨rfl, rfl, (Below.refl _ _), rfl⟩
      · intro uF W hC' hU aF hF
        have hC : Below w4.heap.size w4 W := hC'
        clear hC'
        have h28 : (Det (.bool true)) (uF 6) W := hU.1
        have h32 : (Det (.bool true)) (uF 10) W := hU.2.1
        clear hU
        simp only [puts, Act.put, List.setIfInBounds_toArray, List.set_cons_zero, List.set_cons_succ] at hF
        generalize uF 6 = x28 at h28 hF
        generalize uF 10 = x32 at h32 hF
        obtain rfl : x28 = (.bool true) := h28
        obtain rfl : x32 = (.bool true) := h32
        subst hF
        go_wp2_with (fail)
        exact ⟨rfl, rfl, (Below.refl _ _), rfl⟩
      · intro uF W hC' hU aF hF
        have hC : Below w4.heap.size w4 W := hC'
        clear hC'
        have h33 : (Det (.bool true)) (uF 11) W := hU.1
        clear hU
        simp only [puts, Act.put, List.setIfInBounds_toArray, List.set_cons_zero, List.set_cons_succ] at hF
        generalize uF 11 = x33 at h33 hF
        obtain rfl : x33 = (.bool true) := h33
        subst hF
        go_wp2_with (fail)
        exact ⟨rfl, rfl, (Below.refl _ _), rfl⟩
    intro uF w5 hC' hU aF hF
    have hCw5 : Below w4.heap.size w4 w5 := hC'
    clear hC'
    have h33 : (Det (.bool true)) (uF 11) w5 := hU.2.2.2.2.2.2.2.2.2.2.2.1
    have h2 : (Det (.bool true)) (uF 12) w5 := hU.2.2.2.2.2.2.2.2.2.2.2.2.1
    clear hU
    simp only [puts, Act.put, List.setIfInBounds_toArray, List.set_cons_zero, List.set_cons_succ] at hF
    generalize uF 0 = x22 at hF
    generalize uF 1 = x23 at hF
    generalize uF 2 = x24 at hF
    generalize uF 3 = x25 at hF
    generalize uF 4 = x26 at hF
    generalize uF 5 = x27 at hF
    generalize uF 6 = x28 at hF
    generalize uF 7 = x29 at hF
    generalize uF 8 = x30 at hF
    generalize uF 9 = x31 at hF
    generalize uF 10 = x32 at hF
    generalize uF 11 = x33 at h33 hF
    generalize uF 12 = x2 at h2 hF
    obtain rfl : x33 = (.bool true) := h33
    obtain rfl : x2 = (.bool true) := h2
    subst hF
    go_wp2_with fail
    go_ret
    exact ⟨rfl, hbw4.trans (hCw5.mono hbw4.size)⟩

theorem walk (cs0 : List Value) (w : World) (R0 : Rds w (.cons (.int .i64) (.cons (.int .i64) (.cons (.int .i64) (.cons (.int .i64) (.cons (.slice (.int .u8) 1 1) (.cons (.cons (.int .i64) (.cons (.int .i64) (.cons (.int .i64) (.cons (.int .i64) (.cons (.int .i64) (.cons .bool .nil)))))) .nil)))))) cs0) :
    Calls Try.prog 9 #[.agg cs0.toArray] w fun e w' => e = .returned (.bool true) ∧ Below w.heap.size w w' := by
  obtain ⟨_, _, rfl, r0, _, _, rfl, r1, _, _, rfl, r2, _, _, rfl, r3, _, _, rfl, r4, _, _, rfl, r5, rfl⟩ := R0
  obtain ⟨kind, rfl, hx0⟩ := r0
  obtain ⟨unit, rfl, hx1⟩ := r1
  obtain ⟨block, rfl, hx2⟩ := r2
  obtain ⟨many, rfl, hx3⟩ := r3
  obtain ⟨A, m, c, ds, rfl, w4, y4⟩ := Rds.bytes r4
  obtain ⟨_, _, rfl, s0, _, _, rfl, s1, _, _, rfl, s2, _, _, rfl, s3, _, _, rfl, s4, _, _, rfl, s5, rfl⟩ := r5
  obtain ⟨op, rfl, hy0⟩ := s0
  obtain ⟨who, rfl, hy1⟩ := s1
  obtain ⟨key, rfl, hy2⟩ := s2
  obtain ⟨new, rfl, hy3⟩ := s3
  obtain ⟨ty, rfl, hy4⟩ := s4
  obtain ⟨st, rfl⟩ := s5
  clear r4
  simp only [List.cons_append, List.nil_append, List.append_nil]
  have hx : (Lit.int .i64 kind).wf = true ∧ (Lit.int .i64 unit).wf = true ∧ (Lit.int .i64 block).wf = true ∧ (Lit.int .i64 many).wf = true := ⟨hx0, hx1, hx2, hx3⟩
  have hy : (Lit.int .i64 op).wf = true ∧ (Lit.int .i64 key).wf = true ∧ (Lit.int .i64 new).wf = true ∧ (Lit.int .i64 ty).wf = true := ⟨hy0, hy2, hy3, hy4⟩
  have hmc := w4.le
  have hm : m ≤ 140737488351000 ∨ 140737488351000 < m := by omega
  have key0 : ∃ (E : Value) (n : Int), (m ≤ 16384 → ∀ W, Below w.heap.size w W → Calls Try.prog 31 #[.agg #[.int .i64 kind, .int .i64 unit, .int .i64 block, .int .i64 many, .slice A m c, .int .i64 op, .int .i64 who, .int .i64 key, .int .i64 new, .int .i64 ty, .bool st]] W fun e w' => e = .returned E ∧ Below W.heap.size W w') ∧ (∀ W, Calls Try.prog 33 #[E] W fun e w' => e = .returned (.int .i64 n) ∧ W = w') ∧
      (m ≤ 16384 → ∀ W, Below w.heap.size w W → Calls Try.prog 34 #[.agg #[.int .i64 kind, .int .i64 unit, .int .i64 block, .int .i64 many, .slice A m c, .int .i64 op, .int .i64 who, .int .i64 key, .int .i64 new, .int .i64 ty, .bool st]] W fun e w' => e = .returned (.int .i64 n) ∧ Below W.heap.size W w') := by
    by_cases hg : goodC kind unit block many m op who key new ty st
    · have hml : m ≤ 140737488351000 := by
        by_cases k2 : kind = 2
        · have := hg.2.2.2.2.2.2.2.2.1 k2; omega
        · have := hg.2.2.2.2.2.2.2.2.2.1 k2; omega
      by_cases hr : (2 ≤ unit ∨ ((kind = 1 ∨ kind = 2) ∧ (many < 1 ∨ 16 < block + many)))
      · refine ⟨.iface 35 (.int .i64 1), 1, fun hm6 W hW => ?_, fun W => num_err 1 rfl W, fun hm6 W hW => refcheck_range kind unit block many op who key new ty st (w4.below hW) hW.size hml hx hy hg hr⟩
        by_cases hu : 2 ≤ unit
        · exact check_rangeu kind unit block many op who key new ty st (w4.below hW) hW.size hml hx hy hg hu
        · exact check_rangem kind unit block many op who key new ty st (w4.below hW) hW.size hml hx hy hg ⟨by omega, (hr.resolve_left hu).1, (hr.resolve_left hu).2⟩
      · exact ⟨.nilIface, 0, fun hm6 W hW => check_ok kind unit block many op who key new ty st (w4.below hW) hW.size hml hx hy hg hr, fun W => num_nil W, fun hm6 W hW => refcheck_ok kind unit block many op who key new ty st (w4.below hW) hW.size hml hx hy hg hr⟩
    · exact ⟨.iface 35 (.int .i64 11), 11, fun hm6 W hW => check_no kind unit block many op who key new ty st (w4.below hW) hW.size (by omega) hx hy hg, fun W => num_err 11 rfl W, fun hm6 W hW => refcheck_no kind unit block many op who key new ty st (w4.below hW) hW.size (by omega) hx hy hg⟩
  obtain ⟨E, n, hchk, hnum, href⟩ := key0
  have hmx := w4.mx
  by_cases k1 : kind = 1
  · subst k1; exact core_1 unit block many op who key new ty st hmx E n hchk hnum href
  by_cases k2 : kind = 2
  · subst k2; exact core_2 unit block many op who key new ty st hmx E n hchk hnum href
  by_cases k3 : kind = 3
  · subst k3; exact core_3 unit block many op who key new ty st hmx E n hchk hnum href
  by_cases k4 : kind = 4
  · subst k4; exact core_4 unit block many op who key new ty st hmx E n hchk hnum href
  exact core_o kind unit block many op who key new ty st hmx E n (by simpa using k1) (by simpa using k2) (by simpa using k3) (by simpa using k4) (by rw [accV, if_neg k1, if_neg (by omega)]) hchk hnum href
end Go.Proofs.Ytjjpifppdjpcnaa.cdbChecks

