/-
  TreeLeaf: which leaf a block's bytes have.
-/
import Derived.Test.YtbjiokjmidipaaaTree
namespace Go.Proofs.Ytbjiokjmidipaaa.treeLeaf
open Go.RowKit
set_option linter.unusedVariables false
set_option linter.unusedSimpArgs false
set_option maxRecDepth 100000

theorem build48 (w : World) : (Instr.build 48 #[]).run Try.prog w = .ok (.agg (arr8 (z8' 128))) w := by kernel_rfl
theorem set8 (cs : List UInt8) (i : Nat) (x : UInt8) : (arr8 cs).setIfInBounds i (.int .u8 (x.toNat : Int)) = arr8 (cs.set i x) := by simp [arr8, List.map_set, b8]

set_option maxHeartbeats 1000000 in
/-- A sector of bytes, whichever. -/
theorem cellany_c {w : World} {B : Nat} {A : Option Addr} {n c : Nat} {bs : List UInt8} (hb : SlB w B A n c bs) (hB : B ≤ w.heap.size) :
    Calls Try.prog 27 #[.slice A n c] w fun e w' => ∃ cs : List UInt8, cs.length = 128 ∧ e = .returned (.agg (arr8 cs)) ∧ Below w.heap.size w w' := by
  have hl := Lib.hid hb.len
  have hnm : n ≤ 9223372036854775807 := hb.mx
  obtain ⟨g2, hg2⟩ : ∃ g, g = w.heap.size := ⟨_, rfl⟩
  obtain ⟨g3, hg3⟩ : ∃ g, g = w.heap.size + 1 := ⟨_, rfl⟩
  obtain ⟨v, hv⟩ : ∃ v, v = w.alloc (.cells (arr8 (z8' 128)) 48) := ⟨_, rfl⟩
  have b2 : Blk v g2 48 (arr8 (z8' 128)) := by rw [hv, hg2]; exact Blk.new _ _ _
  have b3 := Blk.new v 48 (arr8 (z8' 128))
  have hzv : v.heap.size = g3 := by rw [hv, hg3]; simp
  rw [hzv] at b3
  have hbv : Below w.heap.size w v := by rw [hv]; exact below_alloc _ _
  have HV := Lib.hid hv
  have HG2 := Lib.hid hg2
  have HZ := Lib.hid hzv
  have HB := Lib.hid hb
  have h23 : g2 < g3 ∧ w.heap.size ≤ g2 := by omega
  have hbd := build48
  clear hv hg2 hg3 hzv hb
  go_enter Try.func27, Try.ntmps27
  go_wp2_with (first
    | ((with_reducible show wpList _ _ _ (Oper.mk (some 2) (Op.alloc 48) _ _ _ _ :: _) _ _); refine wpList_alloc_agg rfl 48 rfl (arr8 (z8' 128)) zero128 ?_; rw [← HV.out, ← HG2.out])
    | ((with_reducible show wpList _ _ _ (Oper.mk (some 3) (Op.alloc 48) _ _ _ _ :: _) _ _); refine wpList_alloc_agg rfl 48 rfl (arr8 (z8' 128)) zero128 ?_; rw [HZ.out])
    | ((with_reducible show wpList _ _ _ (Oper.mk _ (Op.build 48 _) _ _ _ _ :: _) _ _); refine wpList_build (by rfl) 48 _ rfl #[] (by simp only [List.map_toArray, List.map_nil]) _ (build48 _) ?_)
    | ((with_reducible show wpList _ _ _ (Oper.mk none (Op.store 48 (.tmp 3) _) _ _ _ _ :: _) _ _); refine wpList_store8 rfl 48 (.tmp 3) (.tmp 5) rfl g3 rfl (z8' 128) rfl agg128 (len_z8' _) _ _ b3 (by rw [size_arr8, len_z8']) ?_; intro v2 hb2 hgr2 hs2; have c2 := (b2.alloc _).grown hgr2 (by simp; omega); have hv2 := (hbv.alloc hbv.size _).grown hgr2 (Nat.le_trans hbv.size (by simp)) (fun k hk => by cases hk; omega); clear hs2; simp only [Act.put, List.setIfInBounds_toArray, List.set_cons_succ, List.set_cons_zero]))
  clear b2 b3 hbv hgr2
  go_loopw [6] (fun v6 wr => ∃ (i : Nat) (cs : List UInt8), i ≤ 128 ∧ cs.length = 128 ∧ v6 = .int .i64 (i : Int) ∧ Blk wr g3 48 (arr8 cs) ∧ Blk wr g2 48 (arr8 (z8' 128)) ∧ Below w.heap.size w wr) (fun v6 _ => 128 - (intOf v6).toNat)
  case atStart => exact ⟨0, _, by omega, len_z8' _, rfl, hb2, c2, hv2⟩
  case round =>
    clear hb2 c2 hv2
    obtain ⟨i, cs, hi, hcs, rfl, d3, d2, hw⟩ := hrel
    by_cases hlt : i < 128
    · have hii : (i : Int) < 128 := by omega
      have hi0 : (0 : Int) ≤ (i : Int) := by omega
      by_cases hn0 : n = 0
      · have hni : ¬ (0 : Int) < (n : Int) := by omega
        have D3 := Lib.hid d3
        have D2 := Lib.hid d2
        clear d3 d2
        go_wp2_with fail
        exact ⟨⟨i + 1, cs, by omega, hcs, by go_num, D3.out, D2.out, hw⟩, by simp [intOf]; omega⟩
      · have hni : (0 : Int) < (n : Int) := by omega
        obtain ⟨q, hq⟩ : ∃ q, q = i % n := ⟨_, rfl⟩
        have hqn : q < n := by rw [hq]; exact Nat.mod_lt _ (by omega)
        have htm : ((i : Int)).tmod (n : Int) = (q : Int) := by rw [Int.tmod_eq_emod_of_nonneg (by omega), hq]; rfl
        have hmd : (i : Int) % (n : Int) = (q : Int) := by rw [hq]; rfl
        have hqi : (q : Int) < (n : Int) := by omega
        have hq0 : (0 : Int) ≤ (q : Int) := by omega
        have hbw := HB.out.below (hw.mono hB)
        obtain ⟨bb, off, rfl, hbB, hj⟩ := hbw.at_ (by have := hbw.le; omega)
        obtain ⟨x, hx⟩ : ∃ x, x = bs[q]'(by rw [hl.out]; exact hqn) := ⟨_, rfl⟩
        have dq := hj q x (by rw [List.getElem?_eq_getElem (by rw [hl.out]; exact hqn), hx])
        have fi : wr.frozen? ⟨g3, i, none⟩ = false := d3.frozen i
        have di : wr.cell? ⟨g3, i, none⟩ = some (b8 (cs[i]'(by omega))) := by rw [d3.cell, arr8_get, List.getElem?_eq_getElem (by omega)]; rfl
        have hnz : ¬ (n : Int) = 0 := by omega
        rw [b8_def] at di
        have D3 := Lib.hid d3
        have D2 := Lib.hid d2
        have HBB := Lib.hid hbB
        clear d3 d2 hj hx hq hbw hbB
        go_wp2_with fail
        have e3 := D3.out.set_ i (.int .u8 (x.toNat : Int))
        rw [set8] at e3
        exact ⟨⟨i + 1, cs.set i x, by omega, by rw [List.length_set]; exact hcs, by go_num, e3, D2.out.far (by show g2 ≠ g3; omega) _, hw.setCell (by show w.heap.size ≤ g3; omega) _⟩, by simp [intOf]; omega⟩
    · obtain rfl : i = 128 := by omega
      have hii : ¬ ((128 : Nat) : Int) < 128 := by omega
      go_wp2_with (first
        | ((with_reducible show wpList _ _ _ (Oper.mk _ (Op.load 48 (.tmp 3)) _ _ _ _ :: _) _ _); refine wpList_load_whole (by rfl) 48 (.tmp 3) rfl g3 rfl (arr8 cs) agg128 (by rw [size_arr8, hcs]) 48 d3 ?_)
        | ((with_reducible show wpList _ _ _ (Oper.mk none (Op.store 48 (.tmp 2) _) _ _ _ _ :: _) _ _); refine wpList_store8 rfl 48 (.tmp 2) (.tmp 22) rfl g2 rfl cs rfl agg128 hcs _ _ d2 (by rw [size_arr8, len_z8']) ?_; intro v5 hb5 hgr5 hs5))
      refine bodyPost_ret (results_cell_one rfl _ g2 _ (arr8 cs) agg128 (by rw [size_arr8, hcs]) rfl hb5) rfl ⟨cs, hcs, rfl, ?_⟩
      exact hw.grown hgr5 hw.size (fun k hk => by cases hk; omega)

theorem not_none : (leafOf [] 0 (z8' 128) == noS) = false := by decide +kernel

set_option maxHeartbeats 1000000 in
theorem walk (A0 : Option Addr) (n0 c0 : Nat) (bs0 : List UInt8) (a1 : Int) (A2 : Option Addr) (n2 c2 : Nat) (bs2 : List UInt8) (w : World) (w0 : SlB w w.heap.size A0 n0 c0 bs0) (y0 : c0 ≤ 140737488351232) (x1 : (Lit.int .i64 a1).wf = true) (w2 : SlB w w.heap.size A2 n2 c2 bs2) (y2 : c2 ≤ 140737488351232) :
    Calls Try.prog 7 #[.slice A0 n0 c0, .int .i64 a1, .slice A2 n2 c2] w fun e w' => e = .returned (.bool true) ∧ Below w.heap.size w w' := by
  have hnb0 : n0 ≤ 140737488351232 := Nat.le_trans w0.le y0
  by_cases hbig : 1000 < n0
  · have hbi : (1000 : Int) < (n0 : Int) := by omega
    clear w0 w2
    go_enter Try.func7, Try.ntmps7
    go_wp2_with fail
    go_ret
    exact ⟨rfl, Below.refl _ _⟩
  · have hbi : ¬ (1000 : Int) < (n0 : Int) := by omega
    have W0 := Lib.hid w0
    have W2 := Lib.hid w2
    clear w0 w2
    go_enter Try.func7, Try.ntmps7
    go_wp2_with (first
      | (go_at_call 27; refine (cellany_c W2.out (Nat.le_refl _)).mono ?_; rintro e v2 ⟨cs, hcs, rfl, hb2⟩; have hz2 := hb2.size; have b4 := Blk.new v2 48 (arr8 (z8' 128)))
      | ((with_reducible show wpList _ _ _ (Oper.mk _ (Op.alloc 48) _ _ _ _ :: _) _ _); refine wpList_alloc_agg rfl 48 rfl (arr8 (z8' 128)) zero128 ?_)
      | ((with_reducible show wpList _ _ _ (Oper.mk none (Op.store 48 (.tmp 7) _) _ _ _ _ :: _) _ _); refine wpList_store8 rfl 48 (.tmp 7) (.tmp 12) rfl v2.heap.size rfl cs rfl agg128 hcs _ _ b4 (by rw [size_arr8, len_z8']) ?_; intro v5 hb5 hg5 hs5; simp only [Act.put, List.setIfInBounds_toArray, List.set_cons_succ, List.set_cons_zero]))
    have hw5 : Below w.heap.size w v5 := ((hb2).alloc (hb2).size _).grown hg5 (Nat.le_trans hb2.size (by simp)) (fun k hk => by cases hk; exact hb2.size)
    have hz5 := hw5.size
    have hk0 := W0.out.below hw5
    obtain ⟨lf, hlf⟩ : ∃ lf, lf = leafOf bs0 a1 cs := ⟨_, rfl⟩
    have hll : lf.length = 32 := by rw [hlf, len_leafOf]
    obtain ⟨l0, hl0⟩ : ∃ l0, l0 = leafOf [] 0 (z8' 128) := ⟨_, rfl⟩
    have hll0 : l0.length = 32 := by rw [hl0, len_leafOf]
    have hne : (l0 == noS) = false := by rw [hl0]; exact not_none
    have HLF := Lib.hid hlf
    have HL0 := Lib.hid hl0
    have HNE := Lib.hid hne
    clear hs5 hg5 b4 hb2 hlf hl0 hne
    refine wp_region_rel (fun W W' => Below W.heap.size W W') (fun W => Below v5.heap.size v5 W)
      [Det (.agg (arr8 (z8' 128))), Det (.agg (arr8 l0)), Det (.agg (arr8 noS)), Det (.bool true), Det (.bool true), Det (.slice A0 n0 c0), Det (.int .i64 a1), Det (.agg (arr8 cs)), Det (.agg (arr8 lf)), Det (.slice A0 n0 c0), Det (.int .i64 a1), Det (.agg (arr8 cs)), Det (.agg (arr8 lf)), Det (.bool true), Det (.bool true), Det (.bool true)]
      [[], [(0, some 13)], [], [(1, some 14), (2, some 15)], [(3, some 16)], [(4, some 17)], [(4, some 17)], [(4, some 17)], [(5, some 18), (6, some 19), (7, some 20), (4, some 17)], [(4, some 17)], [(4, some 17)], [(4, some 17)], [(9, some 22), (10, some 23), (11, some 24), (4, some 17)], [(8, some 21), (12, some 25), (4, some 17)], [(4, some 17), (13, some 26)], [(14, some 27)]]
      [[], [0], [], [0, 1, 2], [0, 1, 2, 3], [0, 1, 2, 3, 4], [0, 1, 2, 3, 4], [0, 1, 2, 3, 4], [0, 1, 2, 3, 4, 5, 6, 7], [0, 1, 2, 3, 4], [0, 1, 2, 3, 4], [0, 1, 2, 3, 4], [0, 1, 2, 3, 4, 5, 6, 7, 8, 9, 10, 11], [0, 1, 2, 3, 4, 5, 6, 7, 8, 9, 10, 11, 12], [0, 1, 2, 3, 4, 5, 6, 7, 8, 9, 10, 11, 12, 13], [0, 1, 2, 3, 4, 5, 6, 7, 8, 9, 10, 11, 12, 13, 14]]
      [(0, some 13), (1, some 14), (2, some 15), (3, some 16), (4, some 17), (5, some 18), (6, some 19), (7, some 20), (8, some 21), (9, some 22), (10, some 23), (11, some 24), (12, some 25), (13, some 26), (14, some 27), (15, some 6)] (by kernel_rfl) (by kernel_rfl) (fun W W' h1 h2 => h1.trans (h2.mono h1.size)) ((Below.refl _ _).drew) ?_ ?_ ?_
    · exact (AllMono.cons Det.later (AllMono.cons Det.later (AllMono.cons Det.later (AllMono.cons Det.later (AllMono.cons Det.later (AllMono.cons Det.later (AllMono.cons Det.later (AllMono.cons Det.later (AllMono.cons Det.later (AllMono.cons Det.later (AllMono.cons Det.later (AllMono.cons Det.later (AllMono.cons Det.later (AllMono.cons Det.later (AllMono.cons Det.later (AllMono.cons Det.later AllMono.nil))))))))))))))))
    · refine AllOb.cons ?_ (AllOb.cons ?_ (AllOb.cons ?_ (AllOb.cons ?_ (AllOb.cons ?_ (AllOb.cons ?_ (AllOb.cons ?_ (AllOb.cons ?_ (AllOb.cons ?_ (AllOb.cons ?_ (AllOb.cons ?_ (AllOb.cons ?_ (AllOb.cons ?_ (AllOb.cons ?_ (AllOb.cons ?_ (AllOb.cons ?_ (AllOb.nil))))))))))))))))
      · intro uF W hC' hU aF hF
        have hC : Below v5.heap.size v5 W := hC'
        clear hC'
        simp only [puts] at hF
        subst hF
        have hbd := build48
        go_wp2_with (fail)
        exact ⟨rfl, rfl, (Below.refl _ _), rfl⟩
      · intro uF W hC' hU aF hF
        have hC : Below v5.heap.size v5 W := hC'
        clear hC'
        have h13 : (Det (.agg (arr8 (z8' 128)))) (uF 0) W := hU.1
        clear hU
        simp only [puts, Act.put, List.setIfInBounds_toArray, List.set_cons_zero, List.set_cons_succ] at hF
        generalize uF 0 = x13 at h13 hF
        obtain rfl : x13 = (.agg (arr8 (z8' 128))) := h13
        subst hF
        go_wp2_with ((go_at_call 28; refine (leaf_c (SlB.nil W W.heap.size none) (Nat.le_refl _) (by omega) 0 (z8' 128) (len_z8' _)).mono ?_; rintro e W1 ⟨rfl, hb⟩; rw [← HL0.out]))
        exact ⟨rfl, rfl, hb, rfl⟩
      · intro uF W hC' hU aF hF
        have hC : Below v5.heap.size v5 W := hC'
        clear hC'
        simp only [puts] at hF
        subst hF
        have hbd := build44
        go_wp2_with (fail)
        exact ⟨rfl, rfl, (Below.refl _ _), rfl⟩
      · intro uF W hC' hU aF hF
        have hC : Below v5.heap.size v5 W := hC'
        clear hC'
        have h14 : (Det (.agg (arr8 l0))) (uF 1) W := hU.1
        have h15 : (Det (.agg (arr8 noS))) (uF 2) W := hU.2.1
        clear hU
        simp only [puts, Act.put, List.setIfInBounds_toArray, List.set_cons_zero, List.set_cons_succ] at hF
        generalize uF 1 = x14 at h14 hF
        generalize uF 2 = x15 at h15 hF
        obtain rfl : x14 = (.agg (arr8 l0)) := h14
        obtain rfl : x15 = (.agg (arr8 noS)) := h15
        subst hF
        have he := eq_noS l0 hll0 false HNE.out
        have hg := guard44
        go_wp2_with (fail)
        exact ⟨rfl, rfl, (Below.refl _ _), rfl⟩
      · intro uF W hC' hU aF hF
        have hC : Below v5.heap.size v5 W := hC'
        clear hC'
        have h16 : (Det (.bool true)) (uF 3) W := hU.1
        clear hU
        simp only [puts, Act.put, List.setIfInBounds_toArray, List.set_cons_zero, List.set_cons_succ] at hF
        generalize uF 3 = x16 at h16 hF
        obtain rfl : x16 = (.bool true) := h16
        subst hF
        go_wp2_with (fail)
        exact ⟨rfl, rfl, (Below.refl _ _), rfl⟩
      · intro uF W hC' hU aF hF
        have hC : Below v5.heap.size v5 W := hC'
        clear hC'
        have h17 : (Det (.bool true)) (uF 4) W := hU.1
        clear hU
        simp only [puts, Act.put, List.setIfInBounds_toArray, List.set_cons_zero, List.set_cons_succ] at hF
        generalize uF 4 = x17 at h17 hF
        obtain rfl : x17 = (.bool true) := h17
        subst hF
        go_wp2_with (fail)
        exact ⟨rfl, rfl, (Below.refl _ _), rfl⟩
      · intro uF W hC' hU aF hF
        have hC : Below v5.heap.size v5 W := hC'
        clear hC'
        have h17 : (Det (.bool true)) (uF 4) W := hU.1
        clear hU
        simp only [puts, Act.put, List.setIfInBounds_toArray, List.set_cons_zero, List.set_cons_succ] at hF
        generalize uF 4 = x17 at h17 hF
        obtain rfl : x17 = (.bool true) := h17
        subst hF
        go_wp2_with (fail)
        exact ⟨rfl, rfl, (Below.refl _ _), rfl⟩
      · intro uF W hC' hU aF hF
        have hC : Below v5.heap.size v5 W := hC'
        clear hC'
        have h17 : (Det (.bool true)) (uF 4) W := hU.1
        clear hU
        simp only [puts, Act.put, List.setIfInBounds_toArray, List.set_cons_zero, List.set_cons_succ] at hF
        generalize uF 4 = x17 at h17 hF
        obtain rfl : x17 = (.bool true) := h17
        subst hF
        go_wp2_with (((with_reducible show wpList _ _ _ (Oper.mk _ (Op.load 48 _) _ _ _ _ :: _) _ _); refine wpList_load_whole (by rfl) 48 (.tmp 7) rfl v2.heap.size rfl (arr8 cs) agg128 (by rw [size_arr8, hcs]) 48 (hb5.below hC hb5.lt) ?_))
        exact ⟨rfl, rfl, (Below.refl _ _), rfl⟩
      · intro uF W hC' hU aF hF
        have hC : Below v5.heap.size v5 W := hC'
        clear hC'
        have h18 : (Det (.slice A0 n0 c0)) (uF 5) W := hU.1
        have h19 : (Det (.int .i64 a1)) (uF 6) W := hU.2.1
        have h20 : (Det (.agg (arr8 cs))) (uF 7) W := hU.2.2.1
        have h17 : (Det (.bool true)) (uF 4) W := hU.2.2.2.1
        clear hU
        simp only [puts, Act.put, List.setIfInBounds_toArray, List.set_cons_zero, List.set_cons_succ] at hF
        generalize uF 5 = x18 at h18 hF
        generalize uF 6 = x19 at h19 hF
        generalize uF 7 = x20 at h20 hF
        generalize uF 4 = x17 at h17 hF
        obtain rfl : x18 = (.slice A0 n0 c0) := h18
        obtain rfl : x19 = (.int .i64 a1) := h19
        obtain rfl : x20 = (.agg (arr8 cs)) := h20
        obtain rfl : x17 = (.bool true) := h17
        subst hF
        go_wp2_with ((go_at_call 28; refine (leaf_c (hk0.below (hC.mono hz5)) (Nat.le_trans hz5 hC.size) (by omega) a1 cs hcs).mono ?_; rintro e W1 ⟨rfl, hb⟩; rw [← HLF.out]))
        exact ⟨rfl, rfl, hb, rfl⟩
      · intro uF W hC' hU aF hF
        have hC : Below v5.heap.size v5 W := hC'
        clear hC'
        have h17 : (Det (.bool true)) (uF 4) W := hU.1
        clear hU
        simp only [puts, Act.put, List.setIfInBounds_toArray, List.set_cons_zero, List.set_cons_succ] at hF
        generalize uF 4 = x17 at h17 hF
        obtain rfl : x17 = (.bool true) := h17
        subst hF
        go_wp2_with (fail)
        exact ⟨rfl, rfl, (Below.refl _ _), rfl⟩
      · intro uF W hC' hU aF hF
        have hC : Below v5.heap.size v5 W := hC'
        clear hC'
        have h17 : (Det (.bool true)) (uF 4) W := hU.1
        clear hU
        simp only [puts, Act.put, List.setIfInBounds_toArray, List.set_cons_zero, List.set_cons_succ] at hF
        generalize uF 4 = x17 at h17 hF
        obtain rfl : x17 = (.bool true) := h17
        subst hF
        go_wp2_with (fail)
        exact ⟨rfl, rfl, (Below.refl _ _), rfl⟩
      · intro uF W hC' hU aF hF
        have hC : Below v5.heap.size v5 W := hC'
        clear hC'
        have h17 : (Det (.bool true)) (uF 4) W := hU.1
        clear hU
        simp only [puts, Act.put, List.setIfInBounds_toArray, List.set_cons_zero, List.set_cons_succ] at hF
        generalize uF 4 = x17 at h17 hF
        obtain rfl : x17 = (.bool true) := h17
        subst hF
        go_wp2_with (((with_reducible show wpList _ _ _ (Oper.mk _ (Op.load 48 _) _ _ _ _ :: _) _ _); refine wpList_load_whole (by rfl) 48 (.tmp 7) rfl v2.heap.size rfl (arr8 cs) agg128 (by rw [size_arr8, hcs]) 48 (hb5.below hC hb5.lt) ?_))
        exact ⟨rfl, rfl, (Below.refl _ _), rfl⟩
      · intro uF W hC' hU aF hF
        have hC : Below v5.heap.size v5 W := hC'
        clear hC'
        have h22 : (Det (.slice A0 n0 c0)) (uF 9) W := hU.1
        have h23 : (Det (.int .i64 a1)) (uF 10) W := hU.2.1
        have h24 : (Det (.agg (arr8 cs))) (uF 11) W := hU.2.2.1
        have h17 : (Det (.bool true)) (uF 4) W := hU.2.2.2.1
        clear hU
        simp only [puts, Act.put, List.setIfInBounds_toArray, List.set_cons_zero, List.set_cons_succ] at hF
        generalize uF 9 = x22 at h22 hF
        generalize uF 10 = x23 at h23 hF
        generalize uF 11 = x24 at h24 hF
        generalize uF 4 = x17 at h17 hF
        obtain rfl : x22 = (.slice A0 n0 c0) := h22
        obtain rfl : x23 = (.int .i64 a1) := h23
        obtain rfl : x24 = (.agg (arr8 cs)) := h24
        obtain rfl : x17 = (.bool true) := h17
        subst hF
        go_wp2_with ((go_at_call 29; refine (refleaf_c (hk0.below (hC.mono hz5)) (Nat.le_trans hz5 hC.size) (by omega) a1 cs hcs).mono ?_; rintro e W1 ⟨rfl, hb⟩; rw [← HLF.out]))
        exact ⟨rfl, rfl, hb, rfl⟩
      · intro uF W hC' hU aF hF
        have hC : Below v5.heap.size v5 W := hC'
        clear hC'
        have h21 : (Det (.agg (arr8 lf))) (uF 8) W := hU.1
        have h25 : (Det (.agg (arr8 lf))) (uF 12) W := hU.2.1
        have h17 : (Det (.bool true)) (uF 4) W := hU.2.2.1
        clear hU
        simp only [puts, Act.put, List.setIfInBounds_toArray, List.set_cons_zero, List.set_cons_succ] at hF
        generalize uF 8 = x21 at h21 hF
        generalize uF 12 = x25 at h25 hF
        generalize uF 4 = x17 at h17 hF
        obtain rfl : x21 = (.agg (arr8 lf)) := h21
        obtain rfl : x25 = (.agg (arr8 lf)) := h25
        obtain rfl : x17 = (.bool true) := h17
        subst hF
        have he := eq44 lf lf hll hll true (by simp)
        have hg := guard44
        go_wp2_with (fail)
        exact ⟨rfl, rfl, (Below.refl _ _), rfl⟩
      · intro uF W hC' hU aF hF
        have hC : Below v5.heap.size v5 W := hC'
        clear hC'
        have h17 : (Det (.bool true)) (uF 4) W := hU.1
        have h26 : (Det (.bool true)) (uF 13) W := hU.2.1
        clear hU
        simp only [puts, Act.put, List.setIfInBounds_toArray, List.set_cons_zero, List.set_cons_succ] at hF
        generalize uF 4 = x17 at h17 hF
        generalize uF 13 = x26 at h26 hF
        obtain rfl : x17 = (.bool true) := h17
        obtain rfl : x26 = (.bool true) := h26
        subst hF
        go_wp2_with (fail)
        exact ⟨rfl, rfl, (Below.refl _ _), rfl⟩
      · intro uF W hC' hU aF hF
        have hC : Below v5.heap.size v5 W := hC'
        clear hC'
        have h27 : (Det (.bool true)) (uF 14) W := hU.1
        clear hU
        simp only [puts, Act.put, List.setIfInBounds_toArray, List.set_cons_zero, List.set_cons_succ] at hF
        generalize uF 14 = x27 at h27 hF
        obtain rfl : x27 = (.bool true) := h27
        subst hF
        go_wp2_with (fail)
        exact ⟨rfl, rfl, (Below.refl _ _), rfl⟩
    intro uF v6 hC' hU aF hF
    have hCv6 : Below v5.heap.size v5 v6 := hC'
    clear hC'
    have h6 : (Det (.bool true)) (uF 15) v6 := hU.2.2.2.2.2.2.2.2.2.2.2.2.2.2.2.1
    clear hU
    simp only [puts, Act.put, List.setIfInBounds_toArray, List.set_cons_zero, List.set_cons_succ] at hF
    generalize uF 0 = x13 at hF
    generalize uF 1 = x14 at hF
    generalize uF 2 = x15 at hF
    generalize uF 3 = x16 at hF
    generalize uF 4 = x17 at hF
    generalize uF 5 = x18 at hF
    generalize uF 6 = x19 at hF
    generalize uF 7 = x20 at hF
    generalize uF 8 = x21 at hF
    generalize uF 9 = x22 at hF
    generalize uF 10 = x23 at hF
    generalize uF 11 = x24 at hF
    generalize uF 12 = x25 at hF
    generalize uF 13 = x26 at hF
    generalize uF 14 = x27 at hF
    generalize uF 15 = x6 at h6 hF
    obtain rfl : x6 = (.bool true) := h6
    subst hF
    go_wp2_with fail
    go_ret
    exact ⟨rfl, hw5.trans (hCv6.mono hz5)⟩
end Go.Proofs.Ytbjiokjmidipaaa.treeLeaf

