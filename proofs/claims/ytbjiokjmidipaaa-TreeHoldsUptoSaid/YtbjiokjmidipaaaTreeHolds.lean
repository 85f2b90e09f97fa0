/-
  TreeHolds: a tree that was built is verified in each block with its leaf; updated it is the one that is built of the other leaves.
-/
import Derived.Test.YtbjiokjmidipaaaBulk
import Derived.Test.YtbjiokjmidipaaaMoreS
import Derived.Test.YtbjiokjmidipaaaVerify
import Derived.Test.YtbjiokjmidipaaaTreeLaw
namespace Go.Proofs.Ytbjiokjmidipaaa.treeHolds
open Go.RowKit
set_option linter.unusedVariables false
set_option linter.unusedSimpArgs false
set_option maxRecDepth 100000

theorem OwS.pre {w : World} {base n c k : Nat} {A : Option Addr} {xs : List UInt8} (h : OwS w base A n c xs) (hk : k ≤ n) : OwS w base A k c (xs.take (k * 32)) := by
  have hl := h.len
  refine ⟨by rw [List.length_map, List.length_take, hl]; omega, Nat.le_trans hk h.2.1, h.2.2.1, fun hc => ?_⟩
  obtain ⟨g, cur, e, hg, hb, hs, ht⟩ := h.2.2.2 hc
  refine ⟨g, cur, e, hg, hb, hs, ?_⟩
  rw [List.map_take, ← ht, List.take_take, Nat.min_eq_left (by omega)]

set_option maxHeartbeats 4000000 in
theorem walk (cs0 : List Value) (w : World) (R0 : Rds w (.cons (.slice (.int .u8) 1 1) (.cons (.slice (.int .u8) 1 1) (.cons (.slice (.int .u8) 1 1) (.cons (.int .i64) (.cons (.int .u8) .nil))))) cs0) (U0 : Bds 1048576 (.cons (.slice (.int .u8) 1 1) (.cons (.slice (.int .u8) 1 1) (.cons (.slice (.int .u8) 1 1) (.cons (.int .i64) (.cons (.int .u8) .nil))))) cs0) :
    Calls Try.prog 5 #[.agg cs0.toArray] w fun e w' => e = .returned (.bool true) ∧ Below w.heap.size w w' := by
  obtain ⟨_, _, rfl, r0, _, _, rfl, r1, _, _, rfl, r2, _, _, rfl, r3, _, _, rfl, r4, rfl⟩ := R0
  obtain ⟨A0, n0, c0, bs0, rfl, w0, y0⟩ := Rds.bytes r0
  obtain ⟨A1, n1, c1, bs1, rfl, w1, y1⟩ := Rds.bytes r1
  obtain ⟨A2, n2, c2, bs2, rfl, w2, y2⟩ := Rds.bytes r2
  obtain ⟨b, rfl, hx3⟩ := r3
  obtain ⟨o, rfl, hx4⟩ := r4
  obtain ⟨_, _, e0, ⟨_, _, _, rfl, q0, q0'⟩, _, _, e1, ⟨_, _, _, rfl, q1, q1'⟩, _, _, e2, ⟨_, _, _, rfl, q2, q2'⟩, _, _, e3, ⟨_, rfl⟩, _, _, e4, ⟨_, rfl⟩, e5⟩ := U0
  subst e5 e4 e3 e2 e1
  simp only [List.cons_append, List.nil_append, List.append_nil, List.cons.injEq, Value.slice.injEq] at e0
  obtain ⟨⟨rfl, rfl, rfl⟩, ⟨rfl, rfl, rfl⟩, ⟨rfl, rfl, rfl⟩, e34⟩ := e0
  simp only [Value.int.injEq, true_and, and_true] at e34
  obtain ⟨rfl, rfl⟩ := e34
  clear r0 r1 r2
  obtain ⟨ob, rfl⟩ : ∃ ob : UInt8, o = (ob.toNat : Int) := by
    have h := b8_of hx4
    simp only [b8, Value.int.injEq, true_and] at h
    exact ⟨_, h.symm⟩
  obtain ⟨u, hu⟩ : ∃ u : Nat, IntKind.u64.wrap b = (u : Int) := ⟨(IntKind.u64.wrap b).toNat, by rw [Int.toNat_of_nonneg (by rw [wrap_u64]; omega)]⟩
  obtain ⟨kk, hkk⟩ : ∃ kk : Nat, kk = u % 16 := ⟨_, rfl⟩
  have htm : ((u : Int)).tmod 16 = (kk : Int) := by rw [Int.tmod_eq_emod_of_nonneg (by omega)]; omega
  have hmd : (u : Int) % 16 = (kk : Int) := by omega
  have hk16 : (kk : Int) < 16 := by omega
  have hk0 : (0 : Int) ≤ (kk : Int) := by omega
  clear hkk
  simp only [List.cons_append, List.nil_append, List.append_nil]
  have B1 := Blk.new w 24 #[Value.slice A0 n0 c0, Value.slice A1 n1 c1, Value.slice A2 n2 c2, Value.int .i64 b, Value.int .u8 (ob.toNat : Int)]
  have hb1 := below_alloc w (.cells #[Value.slice A0 n0 c0, Value.slice A1 n1 c1, Value.slice A2 n2 c2, Value.int .i64 b, Value.int .u8 (ob.toNat : Int)] 24)
  obtain ⟨v, hv⟩ : ∃ v, v = w.alloc (.cells #[Value.slice A0 n0 c0, Value.slice A1 n1 c1, Value.slice A2 n2 c2, Value.int .i64 b, Value.int .u8 (ob.toNat : Int)] 24) := ⟨_, rfl⟩
  rw [← hv] at B1 hb1
  have d0 : v.cell? ⟨w.heap.size, 0, none⟩ = some (.slice A0 n0 c0) := by rw [B1.cell]; rfl
  have d1 : v.cell? ⟨w.heap.size, 1, none⟩ = some (.slice A1 n1 c1) := by rw [B1.cell]; rfl
  have d3 : v.cell? ⟨w.heap.size, 3, none⟩ = some (.int .i64 b) := by rw [B1.cell]; rfl
  have d4 : v.cell? ⟨w.heap.size, 4, none⟩ = some (.int .u8 (ob.toNat : Int)) := by rw [B1.cell]; rfl
  have HV := Lib.hid hv
  have hz1 := hb1.size
  have W0 := Lib.hid (w0.below hb1)
  have W1 := Lib.hid (w1.below hb1)
  clear w0 w1 w2 B1 hv
  by_cases hbig : 1000 < n0
  · have hbi : (1000 : Int) < (n0 : Int) := by omega
    go_enter Try.func5, Try.ntmps5
    go_wp2_with fail
    rw [← HV.out]
    go_quiet (fail)
    go_wp2_with fail
    go_ret
    exact ⟨rfl, below_drewN hb1 _⟩
  have hbi : ¬ (1000 : Int) < (n0 : Int) := by omega
  go_enter Try.func5, Try.ntmps5
  go_wp2_with fail
  rw [← HV.out]
  go_quiet (fail)
  go_wp2_with (first
    | (go_at_call 19; refine (sums_c (W1.out.below (below_drewN (Below.refl _ _) _)) (by simpa using hz1) (by omega)).mono ?_; rintro e v2 ⟨A3, c3, rfl, h3, hb3⟩; have hv2 : Below w.heap.size w v2 := (below_drewN hb1 _).trans (hb3.mono (by simpa using hz1)); have hz2 := hv2.size; have hvb2 : Below w.heap.size v v2 := (below_drewN (Below.refl _ v) _).trans (hb3.mono (by simpa using hz1)); have hz23 := hb3.size)
    | (at_builtin; refine wpList_append_mk2S (m := 16) rfl (.tmp 27) (.const (.int .i64 16)) rfl rfl h3 rfl (by omega) (by omega) (by omega) hz23 (n1 + 16) rfl ?_; intro A4 c4 v4 h4 q4; have hb4 : Below w.heap.size w v4 := q4.below h3 hv2 (by simpa using hz1) hz2; have hl4 := h4.le; have hm4 := h4.cap; have h4' := OwS.pre h4 (k := 16) (by omega); have W04 := W0.out.below (q4.below h3 hvb2 (by simpa using hz1) hz2); have hz4 := hb4.size; clear q4 h3 h4 hvb2)
    | (go_at_call 20; refine (build_c W04 hz4 (by omega) h4'.sl (Nat.le_refl _)).mono ?_; rintro e v5 ⟨g5, c5, rfl, h5, hb5⟩; have hv5 := hb4.trans (hb5.mono hz4); have hz5 := hv5.size; have h45 := OwS.below h4' hb5; have W05 := W04.below (hb5.mono hz4)))
  obtain ⟨L, hL⟩ : ∃ L, L = List.take (16 * 32) (sumsOf bs1 ++ zsOf 16) := ⟨_, rfl⟩
  rw [← hL] at h5 h45
  obtain ⟨T, hT⟩ : ∃ T, T = buildT bs0 L := ⟨_, rfl⟩
  rw [← hT] at h5
  have hLl : L.length = 16 * 32 := h45.len
  have hTl : T.length = 32 * 32 := h5.len
  have HC := Lib.hid (show ∀ i : Nat, i < 16 → climbT bs0 T (i : Int) (elt L i) = T from fun i hi => by rw [hT]; exact build_holds hLl hi)
  have HT := Lib.hid hT
  have H5 := Lib.hid h5
  have H45 := Lib.hid h45
  have HV5 := Lib.hid hv5
  have hc5 := OwS.le h5
  have hcc5 := h5.2.2.1
  have hW05 := Lib.hid W05
  clear hT hL h5 h45 hv5 W05 h4' W04 hb4 hb5 hb1 hb3 hv2 d0 d1 d3 d4
  go_loopw [45] (fun v45 wr => ∃ i : Nat, i ≤ 16 ∧ v45 = .int .i64 (i : Int) ∧ Below v5.heap.size v5 wr) (fun v45 _ => 16 - (intOf v45).toNat)
  case atStart => exact ⟨0, by omega, rfl, Below.refl _ _⟩
  case round =>
    obtain ⟨i, hi, rfl, hw⟩ := hrel
    have hzw := hw.size
    by_cases hlt : i < 16
    · have hii : (i : Int) < 16 := by omega
      have hi0 : (0 : Int) ≤ (i : Int) := by omega
      obtain ⟨b4, o4, e4, hbb4, hj4⟩ := (OwS.below H45.out hw).sl.at_ (by omega)
      subst e4
      have hj4 := Lib.hid (hj4 i hlt)
      have t5 := Lib.hid (OwS.elt_ (OwS.below H5.out hw) (i := 1) (by omega))
      have hg5 := OwS.lt (OwS.below H5.out hw) (by omega)
      have hel := len_elt hLl hlt
      have hT1 := len_elt hTl (i := 1) (by omega)
      have hcl := HC.out i hlt
      obtain ⟨x, hx⟩ : ∃ x, x = elt L i := ⟨_, rfl⟩
      obtain ⟨R1, hR1⟩ : ∃ R1, R1 = elt T 1 := ⟨_, rfl⟩
      rw [← hx] at hj4 hel hcl
      rw [← hR1] at t5 hT1
      have HCL := Lib.hid (show (elt (climbT bs0 T (i : Int) x) 1 == R1) = true by rw [hcl, hR1]; simp)
      have hwk := (hW05.out.below (hw.mono hz5)).more (Nat.le_trans hz5 hzw)
      have hwt := OwS.below H5.out hw
      have HK := Lib.hid hwk
      have HTT := Lib.hid hwt
      have HW := Lib.hid hw
      clear hx hR1 hcl hwk hwt hw
      go_wp2_with fail
      refine wp_region_rel (fun W W' => Below W.heap.size W W') (fun W => Below wr.heap.size wr W)
        [Det (.slice A0 n0 c0), Det (.slice (some ⟨g5, 0, none⟩) 32 c5), Det (.slice (some ⟨g5, 0, none⟩) 32 c5), Det (.pointer (some ⟨g5, 32, none⟩)), Det (.agg (arr8 R1)), Det (.int .i64 (i : Int)), Det (.slice (some ⟨b4, o4, none⟩) 16 c4), Det (.int .i64 (i : Int)), Det (.pointer (some ⟨b4, o4 + i * 32, none⟩)), Det (.agg (arr8 x)), Det (.bool true), Det (.bool false)]
        [[], [], [], [(2, some 50)], [(3, some 51)], [], [], [], [(6, some 54), (7, some 55)], [(8, some 56)], [(0, some 48), (1, some 49), (4, some 52), (5, some 53), (9, some 57)], [(10, some 58)]]
        [[], [], [], [2], [2, 3], [], [], [], [6, 7], [6, 7, 8], [0, 1, 2, 3, 4, 5, 6, 7, 8, 9], [0, 1, 2, 3, 4, 5, 6, 7, 8, 9, 10]]
        [(0, some 48), (1, some 49), (2, some 50), (3, some 51), (4, some 52), (5, some 53), (6, some 54), (7, some 55), (8, some 56), (9, some 57), (10, some 58), (11, some 59)] (by kernel_rfl) (by kernel_rfl) (fun W W' h1 h2 => h1.trans (h2.mono h1.size)) ((Below.refl _ _).drew) ?_ ?_ ?_
      · exact (AllMono.cons Det.later (AllMono.cons Det.later (AllMono.cons Det.later (AllMono.cons Det.later (AllMono.cons Det.later (AllMono.cons Det.later (AllMono.cons Det.later (AllMono.cons Det.later (AllMono.cons Det.later (AllMono.cons Det.later (AllMono.cons Det.later (AllMono.cons Det.later AllMono.nil))))))))))))
      · refine AllOb.cons ?_ (AllOb.cons ?_ (AllOb.cons ?_ (AllOb.cons ?_ (AllOb.cons ?_ (AllOb.cons ?_ (AllOb.cons ?_ (AllOb.cons ?_ (AllOb.cons ?_ (AllOb.cons ?_ (AllOb.cons ?_ (AllOb.cons ?_ (AllOb.nil))))))))))))
        · intro uF W hC' hU aF hF
          have hC : Below wr.heap.size wr W := hC'
          clear hC'
          simp only [puts] at hF
          subst hF
          go_wp2_with (fail)
          exact ⟨rfl, rfl, (Below.refl _ _), rfl⟩
        · intro uF W hC' hU aF hF
          have hC : Below wr.heap.size wr W := hC'
          clear hC'
          simp only [puts] at hF
          subst hF
          go_wp2_with (fail)
          exact ⟨rfl, rfl, (Below.refl _ _), rfl⟩
        · intro uF W hC' hU aF hF
          have hC : Below wr.heap.size wr W := hC'
          clear hC'
          simp only [puts] at hF
          subst hF
          go_wp2_with (fail)
          exact ⟨rfl, rfl, (Below.refl _ _), rfl⟩
        · intro uF W hC' hU aF hF
          have hC : Below wr.heap.size wr W := hC'
          clear hC'
          have h50 : (Det (.slice (some ⟨g5, 0, none⟩) 32 c5)) (uF 2) W := hU.1
          clear hU
          simp only [puts, Act.put, List.setIfInBounds_toArray, List.set_cons_zero, List.set_cons_succ] at hF
          generalize uF 2 = x50 at h50 hF
          obtain rfl : x50 = (.slice (some ⟨g5, 0, none⟩) 32 c5) := h50
          subst hF
          go_wp2_with (fail)
          exact ⟨rfl, rfl, (Below.refl _ _), rfl⟩
        · intro uF W hC' hU aF hF
          have hC : Below wr.heap.size wr W := hC'
          clear hC'
          have h51 : (Det (.pointer (some ⟨g5, 32, none⟩))) (uF 3) W := hU.1
          clear hU
          simp only [puts, Act.put, List.setIfInBounds_toArray, List.set_cons_zero, List.set_cons_succ] at hF
          generalize uF 3 = x51 at h51 hF
          obtain rfl : x51 = (.pointer (some ⟨g5, 32, none⟩)) := h51
          subst hF
          go_wp2_with (((with_reducible show wpList _ _ _ (Oper.mk _ (Op.load 40 _) _ _ _ _ :: _) _ _); refine wpList_load_agg (by rfl) 40 (.tmp 51) rfl g5 32 rfl (arr8 R1) agg44 (by rw [size_arr8, hT1]) (fun j v hv => (hC.cell (show (⟨g5, 32 + j, none⟩ : Addr).block < wr.heap.size from hg5)).trans (t5.out j v hv)) ?_))
          exact ⟨rfl, rfl, (Below.refl _ _), rfl⟩
        · intro uF W hC' hU aF hF
          have hC : Below wr.heap.size wr W := hC'
          clear hC'
          simp only [puts] at hF
          subst hF
          go_wp2_with (fail)
          exact ⟨rfl, rfl, (Below.refl _ _), rfl⟩
        · intro uF W hC' hU aF hF
          have hC : Below wr.heap.size wr W := hC'
          clear hC'
          simp only [puts] at hF
          subst hF
          go_wp2_with (fail)
          exact ⟨rfl, rfl, (Below.refl _ _), rfl⟩
        · intro uF W hC' hU aF hF
          have hC : Below wr.heap.size wr W := hC'
          clear hC'
          simp only [puts] at hF
          subst hF
          go_wp2_with (fail)
          exact ⟨rfl, rfl, (Below.refl _ _), rfl⟩
        · intro uF W hC' hU aF hF
          have hC : Below wr.heap.size wr W := hC'
          clear hC'
          have h54 : (Det (.slice (some ⟨b4, o4, none⟩) 16 c4)) (uF 6) W := hU.1
          have h55 : (Det (.int .i64 (i : Int))) (uF 7) W := hU.2.1
          clear hU
          simp only [puts, Act.put, List.setIfInBounds_toArray, List.set_cons_zero, List.set_cons_succ] at hF
          generalize uF 6 = x54 at h54 hF
          generalize uF 7 = x55 at h55 hF
          obtain rfl : x54 = (.slice (some ⟨b4, o4, none⟩) 16 c4) := h54
          obtain rfl : x55 = (.int .i64 (i : Int)) := h55
          subst hF
          go_wp2_with (fail)
          exact ⟨rfl, rfl, (Below.refl _ _), rfl⟩
        · intro uF W hC' hU aF hF
          have hC : Below wr.heap.size wr W := hC'
          clear hC'
          have h56 : (Det (.pointer (some ⟨b4, o4 + i * 32, none⟩))) (uF 8) W := hU.1
          clear hU
          simp only [puts, Act.put, List.setIfInBounds_toArray, List.set_cons_zero, List.set_cons_succ] at hF
          generalize uF 8 = x56 at h56 hF
          obtain rfl : x56 = (.pointer (some ⟨b4, o4 + i * 32, none⟩)) := h56
          subst hF
          go_wp2_with (((with_reducible show wpList _ _ _ (Oper.mk _ (Op.load 40 _) _ _ _ _ :: _) _ _); refine wpList_load_agg (by rfl) 40 (.tmp 56) rfl b4 (o4 + i * 32) rfl (arr8 x) agg44 (by rw [size_arr8, hel]) (fun j v hv => (hC.cell (show (⟨b4, o4 + i * 32 + j, none⟩ : Addr).block < wr.heap.size from hbb4)).trans (hj4.out j v hv)) ?_))
          exact ⟨rfl, rfl, (Below.refl _ _), rfl⟩
        · intro uF W hC' hU aF hF
          have hC : Below wr.heap.size wr W := hC'
          clear hC'
          have h48 : (Det (.slice A0 n0 c0)) (uF 0) W := hU.1
          have h49 : (Det (.slice (some ⟨g5, 0, none⟩) 32 c5)) (uF 1) W := hU.2.1
          have h52 : (Det (.agg (arr8 R1))) (uF 4) W := hU.2.2.1
          have h53 : (Det (.int .i64 (i : Int))) (uF 5) W := hU.2.2.2.1
          have h57 : (Det (.agg (arr8 x))) (uF 9) W := hU.2.2.2.2.1
          clear hU
          simp only [puts, Act.put, List.setIfInBounds_toArray, List.set_cons_zero, List.set_cons_succ] at hF
          generalize uF 0 = x48 at h48 hF
          generalize uF 1 = x49 at h49 hF
          generalize uF 4 = x52 at h52 hF
          generalize uF 5 = x53 at h53 hF
          generalize uF 9 = x57 at h57 hF
          obtain rfl : x48 = (.slice A0 n0 c0) := h48
          obtain rfl : x49 = (.slice (some ⟨g5, 0, none⟩) 32 c5) := h49
          obtain rfl : x52 = (.agg (arr8 R1)) := h52
          obtain rfl : x53 = (.int .i64 (i : Int)) := h53
          obtain rfl : x57 = (.agg (arr8 x)) := h57
          subst hF
          go_wp2_with ((go_at_call 24; refine (verify_c (HK.out.below hC) hC.size (by omega) ((OwS.below HTT.out hC).sl) (Nat.le_refl _) (i : Int) (by omega) hel hT1 true HCL.out).mono ?_; rintro e W1 ⟨rfl, hb⟩))
          exact ⟨rfl, rfl, hb, rfl⟩
        · intro uF W hC' hU aF hF
          have hC : Below wr.heap.size wr W := hC'
          clear hC'
          have h58 : (Det (.bool true)) (uF 10) W := hU.1
          clear hU
          simp only [puts, Act.put, List.setIfInBounds_toArray, List.set_cons_zero, List.set_cons_succ] at hF
          generalize uF 10 = x58 at h58 hF
          obtain rfl : x58 = (.bool true) := h58
          subst hF
          go_wp2_with (fail)
          exact ⟨rfl, rfl, (Below.refl _ _), rfl⟩
      intro uF W5 hC' hU aF hF
      have hCW5 : Below wr.heap.size wr W5 := hC'
      clear hC'
      have h59 : (Det (.bool false)) (uF 11) W5 := hU.2.2.2.2.2.2.2.2.2.2.2.1
      clear hU
      simp only [puts, Act.put, List.setIfInBounds_toArray, List.set_cons_zero, List.set_cons_succ] at hF
      generalize uF 0 = x48 at hF
      generalize uF 1 = x49 at hF
      generalize uF 2 = x50 at hF
      generalize uF 3 = x51 at hF
      generalize uF 4 = x52 at hF
      generalize uF 5 = x53 at hF
      generalize uF 6 = x54 at hF
      generalize uF 7 = x55 at hF
      generalize uF 8 = x56 at hF
      generalize uF 9 = x57 at hF
      generalize uF 10 = x58 at hF
      generalize uF 11 = x59 at h59 hF
      obtain rfl : x59 = (.bool false) := h59
      subst hF
      go_wp2_with fail
      exact ⟨⟨i + 1, by omega, by go_num, HW.out.trans (hCW5.mono hzw)⟩, by simp [intOf]; omega⟩
    · obtain rfl : i = 16 := by omega
      have hii : ¬ ((16 : Nat) : Int) < 16 := by omega
      have hv6 := HV5.out.trans (hw.mono hz5)
      have h56 := OwS.below H5.out hw
      have h46 := OwS.below H45.out hw
      have w06 := hW05.out.below (hw.mono hz5)
      have hz6 := hv6.size
      clear HV5 H5 H45 hW05 HC
      obtain ⟨O, hO⟩ : ∃ O, O = elt (sumsOf [ob]) 0 := ⟨_, rfl⟩
      have HO := Lib.hid hO
      have hs1 : SlB (wr.alloc (.cells #[.int .u8 (ob.toNat : Int)] 5)) (wr.heap.size + 1) (some ⟨wr.heap.size, 0, none⟩) 1 1 [ob] :=
        ⟨by simp, Nat.le_refl _, by simp [maxLen], fun _ => ⟨wr.heap.size, 0, rfl, by simp, fun j u hu => by
          rw [(Blk.new wr 5 #[.int .u8 (ob.toNat : Int)]).cell, Nat.zero_add]
          simpa [b8] using hu⟩⟩
      have hwa := below_alloc wr (.cells #[.int .u8 (ob.toNat : Int)] 5)
      clear hO
      go_wp2_with (first
        | (go_at_call 19; refine (sums_c hs1 (by simp) (by omega)).mono ?_; rintro e v7 ⟨A7, c7, rfl, h7, hb7⟩; have hw7 := hwa.trans (hb7.mono hwa.size); have hv7 := hv6.trans (hw7.mono hz6); have hz7 := hv7.size; obtain ⟨g7, _, ea, _⟩ := h7.2.2.2 (by have := OwS.le h7; omega); subst ea; have hc7 := OwS.le h7; have hcc7 := h7.2.2.1; have dO := Lib.hid (OwS.elt_ h7 (i := 0) (by omega)); have hlo := len_elt h7.len (i := 0) (by omega); rw [← HO.out] at dO hlo; have bO := Blk.new v7 40 (arr8 (z8' 32)); have h57 := OwS.below h56 hw7; have h47 := OwS.below h46 hw7; have w07 := w06.below (hw7.mono hz6); clear h7)
        | ((with_reducible show wpList _ _ _ (Oper.mk (some 69) _ _ _ _ _ :: _) _ _); refine wpList_load_agg rfl 40 (.tmp 68) rfl g7 0 rfl (arr8 O) agg44 (by rw [size_arr8, hlo]) (fun j v hv => by simpa using dO.out j v hv) ?_)
        | ((with_reducible show wpList _ _ _ (Oper.mk _ (Op.alloc 40) _ _ _ _ :: _) _ _); refine wpList_alloc_agg rfl 40 rfl (arr8 (z8' 32)) zero44 ?_)
        | ((with_reducible show wpList _ _ _ (Oper.mk none (Op.store 40 (.tmp 12) (.tmp 69)) _ _ _ _ :: _) _ _); refine wpList_store8 rfl 40 (.tmp 12) (.tmp 69) rfl v7.heap.size rfl O rfl agg44 hlo _ _ bO (by rw [size_arr8, len_z8']) ?_; intro v8 hb8 hgr8 hs8; have h78 : Below v7.heap.size v7 v8 := (below_alloc _ _).grown hgr8 (by simp) (fun k hk => by cases hk; exact Nat.le_refl _); have hv8 := hv7.trans (h78.mono hz7); have hz8 := hv8.size; have h58 := OwS.below h57 h78; have h48 := OwS.below h47 h78; have w08 := w07.below (h78.mono hz7); clear hs8 hgr8; simp only [Act.put, List.setIfInBounds_toArray, List.set_cons_succ, List.set_cons_zero])
        | ((with_reducible show wpList _ _ _ (Oper.mk (some 74) _ _ _ _ _ :: _) _ _); refine wpList_load_whole (by rfl) 40 (.tmp 12) rfl v7.heap.size rfl (arr8 O) agg44 (by rw [size_arr8, hlo]) 40 hb8 ?_)
        | (go_at_call 25; refine (update_c w08 hz8 (by omega) (OwS.sl h58) (Nat.le_refl _) (kk : Int) ⟨by omega, by omega⟩ hlo).mono ?_; rintro e v9 ⟨g9, c9, rfl, h9, hb9⟩; have hv9 := hv8.trans (hb9.mono hz8); have hz9 := hv9.size; have h49 := OwS.below h48 hb9; have w09 := w08.below (hb9.mono hz8); have b9 := hb8.below hb9 hb8.lt; obtain ⟨g4, _, ea4, hg4, _⟩ := h49.2.2.2 (by have := OwS.le h49; omega); subst ea4; have hc4 := OwS.le h49; have hcc4 := h49.2.2.1)
        | ((with_reducible show wpList _ _ _ (Oper.mk (some 82) _ _ _ _ _ :: _) _ _); refine wpList_load_whole (by rfl) 40 (.tmp 12) rfl v7.heap.size rfl (arr8 O) agg44 (by rw [size_arr8, hlo]) 40 b9 ?_)
        | ((with_reducible show wpList _ _ _ (Oper.mk none (Op.store 40 (.tmp 83) (.tmp 82)) _ _ _ _ :: _) _ _); refine wpList_storeS rfl 40 (.tmp 83) (.tmp 82) rfl g4 kk rfl O rfl agg44 hlo h49 (by omega) ?_; intro va ha hga hsa; have hwg4 : w.heap.size ≤ g4 := Nat.le_trans (by simpa using hz1) hg4; have hva := hv9.grown hga hz9 (fun k hk => by cases hk; exact hwg4); have hza := hva.size; have w0a := w09.below ((Below.refl w.heap.size v9).grown hga hz9 (fun k hk => by cases hk; exact hwg4)); have hg48 := OwS.lt h48 (by omega); have h9a : OwS va v8.heap.size (some ⟨g9, 0, none⟩) 32 c9 (climbT bs0 T (kk : Int) O) := Row.keepRow h9 hga (.inr (by obtain ⟨gx, _, ex, hgx, _⟩ := h9.2.2.2 (by have := OwS.le h9; omega); simp only [Option.some.injEq, Addr.mk.injEq, and_true] at ex; subst ex; have := OwS.le h9; simp [wrote]; omega)); have heq : (climbT bs0 T (kk : Int) O == buildT bs0 (putS L kk O)) = true := (by rw [HT.out, update_build (b := (kk : Int)) hLl ⟨by omega, by omega⟩ hlo]; simp); clear hga hsa; simp only [Act.put, List.setIfInBounds_toArray, List.set_cons_succ, List.set_cons_zero])
        | (go_at_call 20; refine (build_c w0a hza (by omega) (OwS.sl ha) (Nat.le_refl _)).mono ?_; rintro e vb ⟨gb, cb, rfl, hrb, hbb⟩; have hvb := hva.trans (hbb.mono hza); have hzb := hvb.size; have h9b := OwS.below h9a hbb)
        | (go_at_call 21; refine (same2_c (OwS.sl h9b) (OwS.sl hrb) (Nat.le_refl _) (Nat.le_refl _) true heq).mono ?_; rintro e vc ⟨rfl, hbc⟩))
      go_ret
      exact ⟨rfl, hvb.trans (hbc.mono hzb)⟩
end Go.Proofs.Ytbjiokjmidipaaa.treeHolds

