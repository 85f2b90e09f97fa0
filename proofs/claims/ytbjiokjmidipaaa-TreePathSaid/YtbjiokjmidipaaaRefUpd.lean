/-
  The reference's Path and Update.
-/
import Derived.Test.YtbjiokjmidipaaaClimb
namespace Go.Proofs.Ytbjiokjmidipaaa
open Go.RowKit
set_option linter.unusedVariables false
set_option linter.unusedSimpArgs false
set_option maxRecDepth 100000

def pathV (b : Int) (k : Nat) : List Value := (List.range k).map fun j => .int .i64 (pathAt b j : Int)
theorem pathV_succ (b : Int) (k : Nat) : pathV b (k + 1) = pathV b k ++ [.int .i64 (pathAt b k : Int)] := by simp [pathV, List.range_succ]
theorem len_pathV (b : Int) (k : Nat) : (pathV b k).length = k := by simp [pathV]
theorem pathV_get (b : Int) {k j : Nat} (h : j < k) : (pathV b k)[j]? = some (.int .i64 (pathAt b j : Int)) := by rw [pathV, List.getElem?_map, List.getElem?_range h]; rfl
theorem ints_info : (Try.prog.info? 3).map (fun i => (i.zero, i.size, i.bytes)) = some (some (.int .i64 0), 1, 8) := by kernel_rfl
theorem path_ones (b : Int) (k : Nat) : ∀ u ∈ pathV b k, u.oneCell' = true := by
  intro u hu
  obtain ⟨j, _, rfl⟩ := List.mem_map.1 hu
  rfl

theorem refpath_bad (b : Int) (hb : ¬ (0 ≤ b ∧ b < 16)) (w : World) : Calls Try.prog 30 #[.int .i64 b] w fun e w' => e = .returned (.slice none 0 0) ∧ w = w' := by
  by_cases h0 : b < 0
  · go_enter Try.func30, Try.ntmps30
    go_wp2_with fail
    go_ret
    exact ⟨rfl, rfl⟩
  · have h1 : 15 < b := by omega
    go_enter Try.func30, Try.ntmps30
    go_wp2_with fail
    go_ret
    exact ⟨rfl, rfl⟩

set_option maxHeartbeats 1000000 in
theorem refpath_c (b : Int) (hb : 0 ≤ b ∧ b < 16) (w : World) : Calls Try.prog 30 #[.int .i64 b] w fun e w' => ∃ g c, e = .returned (.slice (some ⟨g, 0, none⟩) 5 c) ∧ Row w' w.heap.size 3 1 (some ⟨g, 0, none⟩) 5 c (pathV b 5) ∧ Below w.heap.size w w' := by
  have h0 : ¬ b < 0 := by omega
  have h1 : ¬ 15 < b := by omega
  have hb0 : 0 ≤ b := hb.1
  have hb1 : b < 16 := hb.2
  have HB := Lib.hid hb
  obtain ⟨N, hN⟩ : ∃ N : Nat, N = 16 + b.toNat := ⟨_, rfl⟩
  have hNi : 16 + b = (N : Int) := by omega
  have HN := Lib.hid (show N = pathAt b 0 by rw [hN, pathAt_zero])
  obtain ⟨i0, hI, hi0, hi1, hi2⟩ := info_parts ints_info
  have n0 : Row w w.heap.size 3 1 none 0 0 (pathV b 0) := Row.nil _ _ _ _ _
  clear hb hN
  go_enter Try.func30, Try.ntmps30
  go_wp2_with fail
  go_loopw [3, 4] (fun v3 v4 wr => ∃ (k i : Nat) (A3 : Option Addr) (c3 : Nat), k ≤ 5 ∧ i = pathAt b k ∧ v4 = .int .i64 (i : Int) ∧ v3 = .slice A3 k c3 ∧ Row wr w.heap.size 3 1 A3 k c3 (pathV b k) ∧ Below w.heap.size w wr) (fun _ v4 _ => (intOf v4).toNat)
  case atStart => exact ⟨0, N, none, 0, by omega, HN.out, rfl, rfl, n0, Below.refl _ _⟩
  case round =>
    clear n0 hNi
    obtain ⟨k, i, A3, c3, hk, hik, rfl, rfl, h3, hw⟩ := hrel
    have hz := hw.size
    have hi31 : i ≤ 31 := by rw [hik]; exact pathAt_le HB.out k
    have hii : (i : Int) ≤ 31 := by omega
    have hii0 : (0 : Int) ≤ (i : Int) := by omega
    by_cases hlt : k < 5
    · have hpos : 0 < i := by rw [hik]; exact pathAt_pos HB.out hlt
      have hpi : (1 : Int) ≤ (i : Int) := by omega
      obtain ⟨q, hq⟩ : ∃ q, q = i / 2 := ⟨_, rfl⟩
      have htd : ((i : Int)).tdiv 2 = (q : Int) := by rw [Int.tdiv_eq_ediv_of_nonneg (by omega), hq]; rfl
      have hed : (i : Int) / 2 = (q : Int) := by rw [hq]; rfl
      have HQ := Lib.hid (show q = pathAt b (k + 1) by rw [pathAt_succ, ← hik, hq])
      have HQ2 := Lib.hid (show q < i by omega)
      have o3 : Sl (wr.alloc (.cells #[.int .i64 (i : Int)] 3)) (wr.heap.size + 1) 1 (some ⟨wr.heap.size, 0, none⟩) 1 1 [.int .i64 (i : Int)] := ⟨rfl, Nat.le_refl _, by simp [maxLen], fun _ => ⟨wr.heap.size, 0, rfl, by simp, fun j u hu => by
        rw [(Blk.new wr 3 #[.int .i64 (i : Int)]).cell, Nat.zero_add]
        simpa using hu⟩⟩
      have H3 := Lib.hid (Row.alloc h3 (.cells #[.int .i64 (i : Int)] 3))
      have HW := Lib.hid hw
      have HIK := Lib.hid hik
      have hone : ∀ u ∈ [Value.int .i64 (i : Int)], u.oneCell' = true := fun u hu => by simp at hu; subst hu; rfl
      clear hik hq h3 hw
      go_wp2_with (at_builtin; refine wpList_append_row rfl (.tmp 17) (.tmp 19) _ rfl Try.underlying52 hI hi0 hi1 hi2 rfl rfl H3.out rfl o3 hone (by omega) (by simp only [maxLen]; omega) (Nat.le_trans hz (by simp)) ?_; intro A4 c4 w4 h4 q4; have hw4 : Below w.heap.size w w4 := q4.below H3.out (HW.out.alloc hz _) (Nat.le_refl _) (Nat.le_trans hz (by simp)))
      exact ⟨⟨k + 1, q, A4, c4, by omega, HQ.out, rfl, rfl, by rw [pathV_succ, ← HIK.out]; exact h4, hw4⟩, by have := HQ2.out; simp [intOf]; omega⟩
    · obtain rfl : k = 5 := by omega
      have h5 : i = 0 := by rw [hik]; exact pathAt_five HB.out
      subst h5
      have hpi : ¬ (1 : Int) ≤ ((0 : Nat) : Int) := by omega
      clear hik
      obtain ⟨g, cur, e, hg, _⟩ := h3.2.2.2 (by have := h3.2.1; omega)
      subst e
      go_wp2_with fail
      go_ret
      exact ⟨g, c3, rfl, h3, hw⟩

set_option maxHeartbeats 4000000 in
theorem refupdate_c {w : World} {B B' : Nat} {A A' : Option Addr} {n c c' : Nat} {key xs leaf : List UInt8} (hk : SlB w B A n c key) (hB : B ≤ w.heap.size) (hn : n ≤ 1099511627776) (hx : SlS w B' A' 32 c' xs) (hB' : B' ≤ w.heap.size) (b : Int) (hb : 0 ≤ b ∧ b < 16) (hl : leaf.length = 32) :
    Calls Try.prog 61 #[.slice A n c, .slice A' 32 c', .int .i64 b, .agg (arr8 leaf)] w fun e w' => ∃ g c2, e = .returned (.slice (some ⟨g, 0, none⟩) 32 c2) ∧ OwS w' w.heap.size (some ⟨g, 0, none⟩) 32 c2 (climbT key xs b leaf) ∧ Below w.heap.size w w' := by
  have hxl : xs.length = 32 * 32 := hx.len
  obtain ⟨gl, hgl⟩ : ∃ g, g = w.heap.size := ⟨_, rfl⟩
  obtain ⟨v, hv⟩ : ∃ v, v = w.alloc (.cells (arr8 leaf) 40) := ⟨_, rfl⟩
  have l1 : Blk v gl 40 (arr8 leaf) := by rw [hv, hgl]; exact Blk.new _ _ _
  have hbv : Below w.heap.size w v := by rw [hv]; exact below_alloc _ _
  have hz0 := hbv.size
  have k0 : OwS (v.alloc (.cells #[] 40)) v.heap.size (some ⟨v.heap.size, 0, none⟩) 0 0 [] := Row.nil _ _ _ _ _
  have hal := below_alloc v (.cells #[] 40)
  have s1 := (hx.below (hbv.mono hB')).below (hal.mono (Nat.le_trans hB' hz0))
  have hglz := l1.lt
  have HV := Lib.hid hv
  have HGL := Lib.hid hgl
  have HZV := Lib.hid (show w.heap.size + 1 = v.heap.size by rw [hv, World.size_alloc])
  have HK := Lib.hid hk
  have HXL := Lib.hid hxl
  have HB := Lib.hid hb
  have S1 := Lib.hid s1
  clear hv hk hx hxl hb s1 hgl
  go_enter Try.func61, Try.ntmps61
  go_wp2_with (first
    | (at_builtin; rw [← HV.out, HZV.out]; refine wpList_appendS rfl (.tmp 12) (.tmp 13) rfl rfl k0 rfl S1.out (by omega) (by simp) 32 (by omega) ?_; intro A2 c2 v2 h2 q2; have hb2 := q2.below k0 hal (Nat.le_refl _) (by simp); rw [List.nil_append] at h2)
    | (go_at_call 30; refine (refpath_c b HB.out v2).mono ?_; rintro e v3 ⟨gp, c3, rfl, h3, hb3⟩))
  obtain ⟨gr, rfl, hgrb⟩ : ∃ g, A2 = some ⟨g, 0, none⟩ ∧ v.heap.size ≤ g := by
    obtain ⟨g, cur, e, hg, _⟩ := h2.2.2.2 (by have := OwS.le h2; omega)
    exact ⟨g, e, hg⟩
  have hgr2 := OwS.lt h2 (by omega)
  obtain ⟨curp, hpb, hpc⟩ : ∃ cur, Blk v3 gp 3 cur ∧ ∀ j, j < 5 → cur[j]? = some (.int .i64 (pathAt b j : Int)) := by
    obtain ⟨g, cur, e, hg, hbk, hs, ht⟩ := h3.2.2.2 (by have := h3.2.1; omega)
    simp only [Option.some.injEq, Addr.mk.injEq, and_true] at e
    subst e
    refine ⟨cur, hbk, fun j hj => ?_⟩
    have h1 : (cur.toList.take (5 * 1))[j]? = cur[j]? := by rw [List.getElem?_take, if_pos (by omega)]; simp
    rw [ht, pathV_get b hj] at h1
    exact h1.symm
  have hgp : v2.heap.size ≤ gp := by
    obtain ⟨g, cur, e, hg, _⟩ := h3.2.2.2 (by have := h3.2.1; omega)
    simp only [Option.some.injEq, Addr.mk.injEq, and_true] at e
    omega
  have hglw := HGL.out
  have hD : gl < gr ∧ gr < gp ∧ w.heap.size ≤ gl := by omega
  clear hglw
  have h23 := Row.base_le (OwS.below h2 hb3) hz0
  have hv3 : Below w.heap.size w v3 := hbv.trans ((hb2.trans (hb3.mono hb2.size)).mono hz0)
  have l3 : Blk v3 gl 40 (arr8 leaf) := l1.below (hb2.trans (hb3.mono hb2.size)) l1.lt
  have hc2 := OwS.le h2
  have hcc2 := h2.2.2.1
  have hc3 := h3.2.1
  have hcc3 := h3.2.2.1
  rw [← HGL.out]
  have H23 := Lib.hid h23
  have HPC := Lib.hid hpc
  clear h2 h3 hb2 hb3 k0 hal l1 h23 hpc
  go_wp2_with fail
  go_loopw [11] (fun v11 wr => ∃ k : Nat, k ≤ 5 ∧ v11 = .int .i64 (k : Int) ∧ OwS wr w.heap.size (some ⟨gr, 0, none⟩) 32 c2 (cl key xs leaf b k) ∧ Blk wr gp 3 curp ∧ Blk wr gl 40 (arr8 leaf) ∧ Below w.heap.size w wr) (fun v11 _ => 5 - (intOf v11).toNat)
  case atStart => exact ⟨0, by omega, rfl, H23.out, hpb, l3, hv3⟩
  case round =>
    clear H23 hpb l3 hv3
    obtain ⟨k, hk5, rfl, h9, hp, hlf, hw⟩ := hrel
    have hz := hw.size
    by_cases hlt : k < 5
    · have hki : (k : Int) < 5 := by omega
      have hk0 : (0 : Int) ≤ (k : Int) := by omega
      obtain ⟨i, hi⟩ : ∃ i, i = pathAt b k := ⟨_, rfl⟩
      have hi31 : i ≤ 31 := by rw [hi]; exact pathAt_le HB.out k
      have hi1 : 0 < i := by rw [hi]; exact pathAt_pos HB.out hlt
      have hii31 : (i : Int) ≤ 31 := by omega
      have hii0 : (0 : Int) ≤ (i : Int) := by omega
      have hii32 : (i : Int) < 32 := by omega
      have hgpl := hp.lt
      have hgrl := OwS.lt h9 (by omega)
      have dk := Lib.hid (show ∀ W, Below wr.heap.size wr W → W.cell? ⟨gp, k, none⟩ = some (.int .i64 (i : Int)) from fun W hW => by rw [(hp.below hW hgpl).cell, HPC.out k hlt, hi])
      have HI := Lib.hid hi
      have HLF := Lib.hid hlf
      have HP := Lib.hid hp
      have H9 := Lib.hid h9
      have HW := Lib.hid hw
      have fin : ∀ (W5 W7 : World) (s : List UInt8), Below wr.heap.size wr W5 → OwS W7 w.heap.size (some ⟨gr, 0, none⟩) 32 c2 (putS (cl key xs leaf b k) i s) → (s = if k = 0 then leaf else joinOf key (i : Int) (elt (cl key xs leaf b k) (2 * i)) (elt (cl key xs leaf b k) (2 * i + 1))) → W5.grownBy W7 (some gr) →
          OwS W7 w.heap.size (some ⟨gr, 0, none⟩) 32 c2 (cl key xs leaf b (k + 1)) ∧ Blk W7 gp 3 curp ∧ Blk W7 gl 40 (arr8 leaf) ∧ Below w.heap.size w W7 := fun W5 W7 s hb5 h7 hs hg7 => by
        have hw5 := HW.out.trans (hb5.mono hz)
        refine ⟨?_, (HP.out.below hb5 HP.out.lt).grown hg7 (by simp; omega), (HLF.out.below hb5 HLF.out.lt).grown hg7 (by simp; omega), hw5.grown hg7 hw5.size (fun k hk => by cases hk; omega)⟩
        rw [cl, ← HI.out, ← hs]
        exact h7
      have HF := Lib.hid fin
      clear hi hlf hp h9 hw fin
      by_cases h0 : k = 0
      · subst h0
        go_wp2_with fail
        refine (wpIn_wide (n := 4)).1 ?_
        refine wpIn_region_rel free_wide rfl 7 (fun W W' => Below W.heap.size W W') (fun W => Below wr.heap.size wr W)
          [Det (.slice (some ⟨gr, 0, none⟩) 32 c2), Det (.slice (some ⟨gp, 0, none⟩) 5 c3), Det (.int .i64 0), Det (.pointer (some ⟨gp, 0, none⟩)), Det (.int .i64 (i : Int)), Det (.agg (arr8 leaf)), Det (.pointer (some ⟨gr, i * 32, none⟩)), Any]
          [[], [], [], [(1, some 26), (2, some 27)], [(3, some 28)], [], [(0, some 25), (4, some 29)], [(6, some 31), (5, some 30)]]
          [[], [], [], [1, 2], [1, 2, 3], [], [0, 1, 2, 3, 4, 5], [0, 1, 2, 3, 4, 5, 6]]
          [(0, some 25), (1, some 26), (2, some 27), (3, some 28), (4, some 29), (5, some 30), (6, some 31), (7, none)] (by kernel_rfl) (by kernel_rfl) (by kernel_rfl) (fun W W' h1 h2 => h1.trans (h2.mono h1.size)) ((Below.refl _ _).drew) ?_ ?_ ?_
        · exact (AllMono.cons Det.later (AllMono.cons Det.later (AllMono.cons Det.later (AllMono.cons Det.later (AllMono.cons Det.later (AllMono.cons Det.later (AllMono.cons Det.later (AllMono.cons Any.later AllMono.nil))))))))
        · refine AllOb.cons ?_ (AllOb.cons ?_ (AllOb.cons ?_ (AllOb.cons ?_ (AllOb.cons ?_ (AllOb.cons ?_ (AllOb.cons ?_ (AllOb.nil)))))))
          · intro uF W hC' hU aF hF
            have hC : Below wr.heap.size wr W := hC'
            clear hC'
            simp only [puts] at hF
            subst hF
            go_wp2_with (fail)
            exact ⟨rfl, rfl, (Below.refl _ _), rfl⟩
          · intro uF W hC' hU aF hF
            have hC : Below wr.heap.size wr W := hC'
            clear hC'
            simp only [puts] at hF
            subst hF
            go_wp2_with (fail)
            exact ⟨rfl, rfl, (Below.refl _ _), rfl⟩
          · intro uF W hC' hU aF hF
            have hC : Below wr.heap.size wr W := hC'
            clear hC'
            simp only [puts] at hF
            subst hF
            go_wp2_with (fail)
            exact ⟨rfl, rfl, (Below.refl _ _), rfl⟩
          · intro uF W hC' hU aF hF
            have hC : Below wr.heap.size wr W := hC'
            clear hC'
            have h26 : (Det (.slice (some ⟨gp, 0, none⟩) 5 c3)) (uF 1) W := hU.1
            have h27 : (Det (.int .i64 0)) (uF 2) W := hU.2.1
            clear hU
            simp only [puts, Act.put, List.setIfInBounds_toArray, List.set_cons_zero, List.set_cons_succ] at hF
            generalize uF 1 = x26 at h26 hF
            generalize uF 2 = x27 at h27 hF
            obtain rfl : x26 = (.slice (some ⟨gp, 0, none⟩) 5 c3) := h26
            obtain rfl : x27 = (.int .i64 0) := h27
            subst hF
            go_wp2_with (fail)
            exact ⟨rfl, rfl, (Below.refl _ _), rfl⟩
          · intro uF W hC' hU aF hF
            have hC : Below wr.heap.size wr W := hC'
            clear hC'
            have h28 : (Det (.pointer (some ⟨gp, 0, none⟩))) (uF 3) W := hU.1
            clear hU
            simp only [puts, Act.put, List.setIfInBounds_toArray, List.set_cons_zero, List.set_cons_succ] at hF
            generalize uF 3 = x28 at h28 hF
            obtain rfl : x28 = (.pointer (some ⟨gp, 0, none⟩)) := h28
            subst hF
            have d1 := dk.out W hC
            go_wp2_with (fail)
            exact ⟨rfl, rfl, (Below.refl _ _), rfl⟩
          · intro uF W hC' hU aF hF
            have hC : Below wr.heap.size wr W := hC'
            clear hC'
            simp only [puts] at hF
            subst hF
            go_wp2_with (((with_reducible show wpList _ _ _ (Oper.mk _ (Op.load 40 _) _ _ _ _ :: _) _ _); refine wpList_load_whole (by rfl) 40 (.tmp 7) rfl gl rfl (arr8 leaf) agg44 (by rw [size_arr8, hl]) 40 (HLF.out.below hC HLF.out.lt) ?_))
            exact ⟨rfl, rfl, (Below.refl _ _), rfl⟩
          · intro uF W hC' hU aF hF
            have hC : Below wr.heap.size wr W := hC'
            clear hC'
            have h25 : (Det (.slice (some ⟨gr, 0, none⟩) 32 c2)) (uF 0) W := hU.1
            have h29 : (Det (.int .i64 (i : Int))) (uF 4) W := hU.2.1
            clear hU
            simp only [puts, Act.put, List.setIfInBounds_toArray, List.set_cons_zero, List.set_cons_succ] at hF
            generalize uF 0 = x25 at h25 hF
            generalize uF 4 = x29 at h29 hF
            obtain rfl : x25 = (.slice (some ⟨gr, 0, none⟩) 32 c2) := h25
            obtain rfl : x29 = (.int .i64 (i : Int)) := h29
            subst hF
            go_wp2_with (fail)
            exact ⟨rfl, rfl, (Below.refl _ _), rfl⟩
        intro uF W5 hC' hU aF hF
        have hCW5 : Below wr.heap.size wr W5 := hC'
        clear hC'
        have h30 : (Det (.agg (arr8 leaf))) (uF 5) W5 := hU.2.2.2.2.2.1
        have h31 : (Det (.pointer (some ⟨gr, i * 32, none⟩))) (uF 6) W5 := hU.2.2.2.2.2.2.1
        clear hU
        simp only [List.take_succ_cons, List.take_zero, puts, Act.put, List.setIfInBounds_toArray, List.set_cons_zero, List.set_cons_succ] at hF
        generalize uF 0 = x25 at hF
        generalize uF 1 = x26 at hF
        generalize uF 2 = x27 at hF
        generalize uF 3 = x28 at hF
        generalize uF 4 = x29 at hF
        generalize uF 5 = x30 at h30 hF
        generalize uF 6 = x31 at h31 hF
        obtain rfl : x30 = (.agg (arr8 leaf)) := h30
        obtain rfl : x31 = (.pointer (some ⟨gr, i * 32, none⟩)) := h31
        subst hF
        simp only [List.drop_succ_cons, List.drop_zero]
        refine wpListIn_of free_wide ?_ rfl ?_
        · rintro ⟨_, _, h⟩
          obtain ⟨_, _, h1, _⟩ := h
          cases h1
        refine wpList_storeS rfl 40 (.tmp 31) (.tmp 30) rfl gr i rfl leaf rfl agg44 hl (OwS.below H9.out hCW5) (by omega) ?_
        intro w6 h6 hg6 hs6
        obtain ⟨e1, e2, e3, e4⟩ := HF.out W5 w6 leaf hCW5 h6 (by simp) hg6
        simp only [Act.put]
        clear hs6 hg6 h6
        go_wp2_with fail
        exact ⟨⟨1, by omega, by go_num, e1, e2, e3, e4⟩, by simp [intOf]⟩
      · have hk0' : ¬ (k : Int) = 0 := by omega
        have hkb : ((k : Int) == 0) = false := by rw [beq_eq_false_iff_ne]; exact hk0'
        have h16 : i < 16 := by
          have h1 := HI.out
          obtain ⟨q, rfl⟩ : ∃ q, k = q + 1 := ⟨k - 1, by omega⟩
          rw [pathAt_succ] at h1
          have := pathAt_le HB.out q
          omega
        obtain ⟨L, hL⟩ : ∃ L, L = 2 * i := ⟨_, rfl⟩
        obtain ⟨M, hM⟩ : ∃ M, M = L + 1 := ⟨_, rfl⟩
        have hLi : 2 * (i : Int) = (L : Int) := by omega
        have hMi : (L : Int) + 1 = (M : Int) := by omega
        have hL32 : (L : Int) < 32 := by omega
        have hM32 : (M : Int) < 32 := by omega
        have hL0 : (0 : Int) ≤ (L : Int) := by omega
        have hM0 : (0 : Int) ≤ (M : Int) := by omega
        have hlen := len_cl (key := key) HXL.out hl HB.out k
        have heL := len_elt hlen (i := L) (by omega)
        have heM := len_elt hlen (i := M) (by omega)
        have dL := Lib.hid (OwS.elt_ H9.out (i := L) (by omega))
        have dM := Lib.hid (OwS.elt_ H9.out (i := M) (by omega))
        obtain ⟨xx, hxx⟩ : ∃ xx, xx = elt (cl key xs leaf b k) L := ⟨_, rfl⟩
        obtain ⟨yy, hyy⟩ : ∃ yy, yy = elt (cl key xs leaf b k) M := ⟨_, rfl⟩
        obtain ⟨jj, hjj⟩ : ∃ jj, jj = joinOf key (i : Int) xx yy := ⟨_, rfl⟩
        have hlj : jj.length = 32 := by rw [hjj, len_joinOf]
        rw [← hxx] at dL heL
        rw [← hyy] at dM heM
        have HJE := Lib.hid (show jj = if k = 0 then leaf else joinOf key (i : Int) (elt (cl key xs leaf b k) (2 * i)) (elt (cl key xs leaf b k) (2 * i + 1)) by rw [if_neg h0, hjj, hxx, hyy, hM, hL])
        have HJJ := Lib.hid hjj
        clear hjj hxx hyy hL hM hlen
        go_wp2_with fail
        refine (wpIn_wide (n := 4)).1 ?_
        refine wpIn_region_rel free_wide rfl 29 (fun W W' => Below W.heap.size W W') (fun W => Below wr.heap.size wr W)
          [Det (.slice (some ⟨gr, 0, none⟩) 32 c2), Det (.slice (some ⟨gp, 0, none⟩) 5 c3), Det (.int .i64 (k : Int)), Det (.pointer (some ⟨gp, k, none⟩)), Det (.int .i64 (i : Int)), Det (.slice A n c), Det (.slice (some ⟨gp, 0, none⟩) 5 c3), Det (.int .i64 (k : Int)), Det (.pointer (some ⟨gp, k, none⟩)), Det (.int .i64 (i : Int)), Det (.slice (some ⟨gr, 0, none⟩) 32 c2), Det (.slice (some ⟨gp, 0, none⟩) 5 c3), Det (.int .i64 (k : Int)), Det (.pointer (some ⟨gp, k, none⟩)), Det (.int .i64 (i : Int)), Det (.int .i64 (L : Int)), Det (.pointer (some ⟨gr, L * 32, none⟩)), Det (.agg (arr8 xx)), Det (.slice (some ⟨gr, 0, none⟩) 32 c2), Det (.slice (some ⟨gp, 0, none⟩) 5 c3), Det (.int .i64 (k : Int)), Det (.pointer (some ⟨gp, k, none⟩)), Det (.int .i64 (i : Int)), Det (.int .i64 (L : Int)), Det (.int .i64 (M : Int)), Det (.pointer (some ⟨gr, M * 32, none⟩)), Det (.agg (arr8 yy)), Det (.agg (arr8 jj)), Det (.pointer (some ⟨gr, i * 32, none⟩)), Any]
          [[], [], [], [(1, some 33), (2, some 34)], [(3, some 35)], [], [], [], [(6, some 38), (7, some 39)], [(8, some 40)], [], [], [], [(11, some 43), (12, some 44)], [(13, some 45)], [(14, some 46)], [(10, some 42), (15, some 47)], [(16, some 48)], [], [], [], [(19, some 51), (20, some 52)], [(21, some 53)], [(22, some 54)], [(23, some 55)], [(18, some 50), (24, some 56)], [(25, some 57)], [(5, some 37), (9, some 41), (17, some 49), (26, some 58)], [(0, some 32), (4, some 36)], [(28, some 60), (27, some 59)]]
          [[], [], [], [1, 2], [1, 2, 3], [], [], [], [6, 7], [6, 7, 8], [], [], [], [11, 12], [11, 12, 13], [11, 12, 13, 14], [10, 11, 12, 13, 14, 15], [10, 11, 12, 13, 14, 15, 16], [], [], [], [19, 20], [19, 20, 21], [19, 20, 21, 22], [19, 20, 21, 22, 23], [18, 19, 20, 21, 22, 23, 24], [18, 19, 20, 21, 22, 23, 24, 25], [5, 6, 7, 8, 9, 10, 11, 12, 13, 14, 15, 16, 17, 18, 19, 20, 21, 22, 23, 24, 25, 26], [0, 1, 2, 3, 4, 5, 6, 7, 8, 9, 10, 11, 12, 13, 14, 15, 16, 17, 18, 19, 20, 21, 22, 23, 24, 25, 26, 27], [0, 1, 2, 3, 4, 5, 6, 7, 8, 9, 10, 11, 12, 13, 14, 15, 16, 17, 18, 19, 20, 21, 22, 23, 24, 25, 26, 27, 28]]
          [(0, some 32), (1, some 33), (2, some 34), (3, some 35), (4, some 36), (5, some 37), (6, some 38), (7, some 39), (8, some 40), (9, some 41), (10, some 42), (11, some 43), (12, some 44), (13, some 45), (14, some 46), (15, some 47), (16, some 48), (17, some 49), (18, some 50), (19, some 51), (20, some 52), (21, some 53), (22, some 54), (23, some 55), (24, some 56), (25, some 57), (26, some 58), (27, some 59), (28, some 60), (29, none)] (by kernel_rfl) (by kernel_rfl) (by kernel_rfl) (fun W W' h1 h2 => h1.trans (h2.mono h1.size)) ((Below.refl _ _).drew) ?_ ?_ ?_
        · exact (AllMono.cons Det.later (AllMono.cons Det.later (AllMono.cons Det.later (AllMono.cons Det.later (AllMono.cons Det.later (AllMono.cons Det.later (AllMono.cons Det.later (AllMono.cons Det.later (AllMono.cons Det.later (AllMono.cons Det.later (AllMono.cons Det.later (AllMono.cons Det.later (AllMono.cons Det.later (AllMono.cons Det.later (AllMono.cons Det.later (AllMono.cons Det.later (AllMono.cons Det.later (AllMono.cons Det.later (AllMono.cons Det.later (AllMono.cons Det.later (AllMono.cons Det.later (AllMono.cons Det.later (AllMono.cons Det.later (AllMono.cons Det.later (AllMono.cons Det.later (AllMono.cons Det.later (AllMono.cons Det.later (AllMono.cons Det.later (AllMono.cons Det.later (AllMono.cons Any.later AllMono.nil))))))))))))))))))))))))))))))
        · refine AllOb.cons ?_ (AllOb.cons ?_ (AllOb.cons ?_ (AllOb.cons ?_ (AllOb.cons ?_ (AllOb.cons ?_ (AllOb.cons ?_ (AllOb.cons ?_ (AllOb.cons ?_ (AllOb.cons ?_ (AllOb.cons ?_ (AllOb.cons ?_ (AllOb.cons ?_ (AllOb.cons ?_ (AllOb.cons ?_ (AllOb.cons ?_ (AllOb.cons ?_ (AllOb.cons ?_ (AllOb.cons ?_ (AllOb.cons ?_ (AllOb.cons ?_ (AllOb.cons ?_ (AllOb.cons ?_ (AllOb.cons ?_ (AllOb.cons ?_ (AllOb.cons ?_ (AllOb.cons ?_ (AllOb.cons ?_ (AllOb.cons ?_ (AllOb.nil)))))))))))))))))))))))))))))
          · intro uF W hC' hU aF hF
            have hC : Below wr.heap.size wr W := hC'
            clear hC'
            simp only [puts] at hF
            subst hF
            go_wp2_with (fail)
            exact ⟨rfl, rfl, (Below.refl _ _), rfl⟩
          · intro uF W hC' hU aF hF
            have hC : Below wr.heap.size wr W := hC'
            clear hC'
            simp only [puts] at hF
            subst hF
            go_wp2_with (fail)
            exact ⟨rfl, rfl, (Below.refl _ _), rfl⟩
          · intro uF W hC' hU aF hF
            have hC : Below wr.heap.size wr W := hC'
            clear hC'
            simp only [puts] at hF
            subst hF
            go_wp2_with (fail)
            exact ⟨rfl, rfl, (Below.refl _ _), rfl⟩
          · intro uF W hC' hU aF hF
            have hC : Below wr.heap.size wr W := hC'
            clear hC'
            have h33 : (Det (.slice (some ⟨gp, 0, none⟩) 5 c3)) (uF 1) W := hU.1
            have h34 : (Det (.int .i64 (k : Int))) (uF 2) W := hU.2.1
            clear hU
            simp only [puts, Act.put, List.setIfInBounds_toArray, List.set_cons_zero, List.set_cons_succ] at hF
            generalize uF 1 = x33 at h33 hF
            generalize uF 2 = x34 at h34 hF
            obtain rfl : x33 = (.slice (some ⟨gp, 0, none⟩) 5 c3) := h33
            obtain rfl : x34 = (.int .i64 (k : Int)) := h34
            subst hF
            go_wp2_with (fail)
            exact ⟨rfl, rfl, (Below.refl _ _), rfl⟩
          · intro uF W hC' hU aF hF
            have hC : Below wr.heap.size wr W := hC'
            clear hC'
            have h35 : (Det (.pointer (some ⟨gp, k, none⟩))) (uF 3) W := hU.1
            clear hU
            simp only [puts, Act.put, List.setIfInBounds_toArray, List.set_cons_zero, List.set_cons_succ] at hF
            generalize uF 3 = x35 at h35 hF
            obtain rfl : x35 = (.pointer (some ⟨gp, k, none⟩)) := h35
            subst hF
            have d1 := dk.out W hC
            go_wp2_with (fail)
            exact ⟨rfl, rfl, (Below.refl _ _), rfl⟩
          · intro uF W hC' hU aF hF
            have hC : Below wr.heap.size wr W := hC'
            clear hC'
            simp only [puts] at hF
            subst hF
            go_wp2_with (fail)
            exact ⟨rfl, rfl, (Below.refl _ _), rfl⟩
          · intro uF W hC' hU aF hF
            have hC : Below wr.heap.size wr W := hC'
            clear hC'
            simp only [puts] at hF
            subst hF
            go_wp2_with (fail)
            exact ⟨rfl, rfl, (Below.refl _ _), rfl⟩
          · intro uF W hC' hU aF hF
            have hC : Below wr.heap.size wr W := hC'
            clear hC'
            simp only [puts] at hF
            subst hF
            go_wp2_with (fail)
            exact ⟨rfl, rfl, (Below.refl _ _), rfl⟩
          · intro uF W hC' hU aF hF
            have hC : Below wr.heap.size wr W := hC'
            clear hC'
            have h38 : (Det (.slice (some ⟨gp, 0, none⟩) 5 c3)) (uF 6) W := hU.1
            have h39 : (Det (.int .i64 (k : Int))) (uF 7) W := hU.2.1
            clear hU
            simp only [puts, Act.put, List.setIfInBounds_toArray, List.set_cons_zero, List.set_cons_succ] at hF
            generalize uF 6 = x38 at h38 hF
            generalize uF 7 = x39 at h39 hF
            obtain rfl : x38 = (.slice (some ⟨gp, 0, none⟩) 5 c3) := h38
            obtain rfl : x39 = (.int .i64 (k : Int)) := h39
            subst hF
            go_wp2_with (fail)
            exact ⟨rfl, rfl, (Below.refl _ _), rfl⟩
          · intro uF W hC' hU aF hF
            have hC : Below wr.heap.size wr W := hC'
            clear hC'
            have h40 : (Det (.pointer (some ⟨gp, k, none⟩))) (uF 8) W := hU.1
            clear hU
            simp only [puts, Act.put, List.setIfInBounds_toArray, List.set_cons_zero, List.set_cons_succ] at hF
            generalize uF 8 = x40 at h40 hF
            obtain rfl : x40 = (.pointer (some ⟨gp, k, none⟩)) := h40
            subst hF
            have d1 := dk.out W hC
            go_wp2_with (fail)
            exact ⟨rfl, rfl, (Below.refl _ _), rfl⟩
          · intro uF W hC' hU aF hF
            have hC : Below wr.heap.size wr W := hC'
            clear hC'
            simp only [puts] at hF
            subst hF
            go_wp2_with (fail)
            exact ⟨rfl, rfl, (Below.refl _ _), rfl⟩
          · intro uF W hC' hU aF hF
            have hC : Below wr.heap.size wr W := hC'
            clear hC'
            simp only [puts] at hF
            subst hF
            go_wp2_with (fail)
            exact ⟨rfl, rfl, (Below.refl _ _), rfl⟩
          · intro uF W hC' hU aF hF
            have hC : Below wr.heap.size wr W := hC'
            clear hC'
            simp only [puts] at hF
            subst hF
            go_wp2_with (fail)
            exact ⟨rfl, rfl, (Below.refl _ _), rfl⟩
          · intro uF W hC' hU aF hF
            have hC : Below wr.heap.size wr W := hC'
            clear hC'
            have h43 : (Det (.slice (some ⟨gp, 0, none⟩) 5 c3)) (uF 11) W := hU.1
            have h44 : (Det (.int .i64 (k : Int))) (uF 12) W := hU.2.1
            clear hU
            simp only [puts, Act.put, List.setIfInBounds_toArray, List.set_cons_zero, List.set_cons_succ] at hF
            generalize uF 11 = x43 at h43 hF
            generalize uF 12 = x44 at h44 hF
            obtain rfl : x43 = (.slice (some ⟨gp, 0, none⟩) 5 c3) := h43
            obtain rfl : x44 = (.int .i64 (k : Int)) := h44
            subst hF
            go_wp2_with (fail)
            exact ⟨rfl, rfl, (Below.refl _ _), rfl⟩
          · intro uF W hC' hU aF hF
            have hC : Below wr.heap.size wr W := hC'
            clear hC'
            have h45 : (Det (.pointer (some ⟨gp, k, none⟩))) (uF 13) W := hU.1
            clear hU
            simp only [puts, Act.put, List.setIfInBounds_toArray, List.set_cons_zero, List.set_cons_succ] at hF
            generalize uF 13 = x45 at h45 hF
            obtain rfl : x45 = (.pointer (some ⟨gp, k, none⟩)) := h45
            subst hF
            have d1 := dk.out W hC
            go_wp2_with (fail)
            exact ⟨rfl, rfl, (Below.refl _ _), rfl⟩
          · intro uF W hC' hU aF hF
            have hC : Below wr.heap.size wr W := hC'
            clear hC'
            have h46 : (Det (.int .i64 (i : Int))) (uF 14) W := hU.1
            clear hU
            simp only [puts, Act.put, List.setIfInBounds_toArray, List.set_cons_zero, List.set_cons_succ] at hF
            generalize uF 14 = x46 at h46 hF
            obtain rfl : x46 = (.int .i64 (i : Int)) := h46
            subst hF
            go_wp2_with (fail)
            exact ⟨rfl, rfl, (Below.refl _ _), rfl⟩
          · intro uF W hC' hU aF hF
            have hC : Below wr.heap.size wr W := hC'
            clear hC'
            have h42 : (Det (.slice (some ⟨gr, 0, none⟩) 32 c2)) (uF 10) W := hU.1
            have h47 : (Det (.int .i64 (L : Int))) (uF 15) W := hU.2.1
            clear hU
            simp only [puts, Act.put, List.setIfInBounds_toArray, List.set_cons_zero, List.set_cons_succ] at hF
            generalize uF 10 = x42 at h42 hF
            generalize uF 15 = x47 at h47 hF
            obtain rfl : x42 = (.slice (some ⟨gr, 0, none⟩) 32 c2) := h42
            obtain rfl : x47 = (.int .i64 (L : Int)) := h47
            subst hF
            go_wp2_with (fail)
            exact ⟨rfl, rfl, (Below.refl _ _), rfl⟩
          · intro uF W hC' hU aF hF
            have hC : Below wr.heap.size wr W := hC'
            clear hC'
            have h48 : (Det (.pointer (some ⟨gr, L * 32, none⟩))) (uF 16) W := hU.1
            clear hU
            simp only [puts, Act.put, List.setIfInBounds_toArray, List.set_cons_zero, List.set_cons_succ] at hF
            generalize uF 16 = x48 at h48 hF
            obtain rfl : x48 = (.pointer (some ⟨gr, L * 32, none⟩)) := h48
            subst hF
            go_wp2_with (((with_reducible show wpList _ _ _ (Oper.mk _ (Op.load 40 _) _ _ _ _ :: _) _ _); refine wpList_load_agg (by rfl) 40 (.tmp 48) rfl gr (L * 32) rfl (arr8 xx) agg44 (by rw [size_arr8, heL]) (fun j v hv => (hC.cell (show (⟨gr, L * 32 + j, none⟩ : Addr).block < wr.heap.size from hgrl)).trans (dL.out j v hv)) ?_))
            exact ⟨rfl, rfl, (Below.refl _ _), rfl⟩
          · intro uF W hC' hU aF hF
            have hC : Below wr.heap.size wr W := hC'
            clear hC'
            simp only [puts] at hF
            subst hF
            go_wp2_with (fail)
            exact ⟨rfl, rfl, (Below.refl _ _), rfl⟩
          · intro uF W hC' hU aF hF
            have hC : Below wr.heap.size wr W := hC'
            clear hC'
            simp only [puts] at hF
            subst hF
            go_wp2_with (fail)
            exact ⟨rfl, rfl, (Below.refl _ _), rfl⟩
          · intro uF W hC' hU aF hF
            have hC : Below wr.heap.size wr W := hC'
            clear hC'
            simp only [puts] at hF
            subst hF
            go_wp2_with (fail)
            exact ⟨rfl, rfl, (Below.refl _ _), rfl⟩
          · intro uF W hC' hU aF hF
            have hC : Below wr.heap.size wr W := hC'
            clear hC'
            have h51 : (Det (.slice (some ⟨gp, 0, none⟩) 5 c3)) (uF 19) W := hU.1
            have h52 : (Det (.int .i64 (k : Int))) (uF 20) W := hU.2.1
            clear hU
            simp only [puts, Act.put, List.setIfInBounds_toArray, List.set_cons_zero, List.set_cons_succ] at hF
            generalize uF 19 = x51 at h51 hF
            generalize uF 20 = x52 at h52 hF
            obtain rfl : x51 = (.slice (some ⟨gp, 0, none⟩) 5 c3) := h51
            obtain rfl : x52 = (.int .i64 (k : Int)) := h52
            subst hF
            go_wp2_with (fail)
            exact ⟨rfl, rfl, (Below.refl _ _), rfl⟩
          · intro uF W hC' hU aF hF
            have hC : Below wr.heap.size wr W := hC'
            clear hC'
            have h53 : (Det (.pointer (some ⟨gp, k, none⟩))) (uF 21) W := hU.1
            clear hU
            simp only [puts, Act.put, List.setIfInBounds_toArray, List.set_cons_zero, List.set_cons_succ] at hF
            generalize uF 21 = x53 at h53 hF
            obtain rfl : x53 = (.pointer (some ⟨gp, k, none⟩)) := h53
            subst hF
            have d1 := dk.out W hC
            go_wp2_with (fail)
            exact ⟨rfl, rfl, (Below.refl _ _), rfl⟩
          · intro uF W hC' hU aF hF
            have hC : Below wr.heap.size wr W := hC'
            clear hC'
            have h54 : (Det (.int .i64 (i : Int))) (uF 22) W := hU.1
            clear hU
            simp only [puts, Act.put, List.setIfInBounds_toArray, List.set_cons_zero, List.set_cons_succ] at hF
            generalize uF 22 = x54 at h54 hF
            obtain rfl : x54 = (.int .i64 (i : Int)) := h54
            subst hF
            go_wp2_with (fail)
            exact ⟨rfl, rfl, (Below.refl _ _), rfl⟩
          · intro uF W hC' hU aF hF
            have hC : Below wr.heap.size wr W := hC'
            clear hC'
            have h55 : (Det (.int .i64 (L : Int))) (uF 23) W := hU.1
            clear hU
            simp only [puts, Act.put, List.setIfInBounds_toArray, List.set_cons_zero, List.set_cons_succ] at hF
            generalize uF 23 = x55 at h55 hF
            obtain rfl : x55 = (.int .i64 (L : Int)) := h55
            subst hF
            go_wp2_with (fail)
            exact ⟨rfl, rfl, (Below.refl _ _), rfl⟩
          · intro uF W hC' hU aF hF
            have hC : Below wr.heap.size wr W := hC'
            clear hC'
            have h50 : (Det (.slice (some ⟨gr, 0, none⟩) 32 c2)) (uF 18) W := hU.1
            have h56 : (Det (.int .i64 (M : Int))) (uF 24) W := hU.2.1
            clear hU
            simp only [puts, Act.put, List.setIfInBounds_toArray, List.set_cons_zero, List.set_cons_succ] at hF
            generalize uF 18 = x50 at h50 hF
            generalize uF 24 = x56 at h56 hF
            obtain rfl : x50 = (.slice (some ⟨gr, 0, none⟩) 32 c2) := h50
            obtain rfl : x56 = (.int .i64 (M : Int)) := h56
            subst hF
            go_wp2_with (fail)
            exact ⟨rfl, rfl, (Below.refl _ _), rfl⟩
          · intro uF W hC' hU aF hF
            have hC : Below wr.heap.size wr W := hC'
            clear hC'
            have h57 : (Det (.pointer (some ⟨gr, M * 32, none⟩))) (uF 25) W := hU.1
            clear hU
            simp only [puts, Act.put, List.setIfInBounds_toArray, List.set_cons_zero, List.set_cons_succ] at hF
            generalize uF 25 = x57 at h57 hF
            obtain rfl : x57 = (.pointer (some ⟨gr, M * 32, none⟩)) := h57
            subst hF
            go_wp2_with (((with_reducible show wpList _ _ _ (Oper.mk _ (Op.load 40 _) _ _ _ _ :: _) _ _); refine wpList_load_agg (by rfl) 40 (.tmp 57) rfl gr (M * 32) rfl (arr8 yy) agg44 (by rw [size_arr8, heM]) (fun j v hv => (hC.cell (show (⟨gr, M * 32 + j, none⟩ : Addr).block < wr.heap.size from hgrl)).trans (dM.out j v hv)) ?_))
            exact ⟨rfl, rfl, (Below.refl _ _), rfl⟩
          · intro uF W hC' hU aF hF
            have hC : Below wr.heap.size wr W := hC'
            clear hC'
            have h37 : (Det (.slice A n c)) (uF 5) W := hU.1
            have h41 : (Det (.int .i64 (i : Int))) (uF 9) W := hU.2.1
            have h49 : (Det (.agg (arr8 xx))) (uF 17) W := hU.2.2.1
            have h58 : (Det (.agg (arr8 yy))) (uF 26) W := hU.2.2.2.1
            clear hU
            simp only [puts, Act.put, List.setIfInBounds_toArray, List.set_cons_zero, List.set_cons_succ] at hF
            generalize uF 5 = x37 at h37 hF
            generalize uF 9 = x41 at h41 hF
            generalize uF 17 = x49 at h49 hF
            generalize uF 26 = x58 at h58 hF
            obtain rfl : x37 = (.slice A n c) := h37
            obtain rfl : x41 = (.int .i64 (i : Int)) := h41
            obtain rfl : x49 = (.agg (arr8 xx)) := h49
            obtain rfl : x58 = (.agg (arr8 yy)) := h58
            subst hF
            go_wp2_with ((go_at_call 56; refine (refjoin_c (HK.out.below ((HW.out.trans (hC.mono hz)).mono hB)) (Nat.le_trans hB (Nat.le_trans hz hC.size)) hn (i : Int) xx yy heL heM).mono ?_; rintro e W1 ⟨rfl, hb⟩; rw [← HJJ.out]))
            exact ⟨rfl, rfl, hb, rfl⟩
          · intro uF W hC' hU aF hF
            have hC : Below wr.heap.size wr W := hC'
            clear hC'
            have h32 : (Det (.slice (some ⟨gr, 0, none⟩) 32 c2)) (uF 0) W := hU.1
            have h36 : (Det (.int .i64 (i : Int))) (uF 4) W := hU.2.1
            clear hU
            simp only [puts, Act.put, List.setIfInBounds_toArray, List.set_cons_zero, List.set_cons_succ] at hF
            generalize uF 0 = x32 at h32 hF
            generalize uF 4 = x36 at h36 hF
            obtain rfl : x32 = (.slice (some ⟨gr, 0, none⟩) 32 c2) := h32
            obtain rfl : x36 = (.int .i64 (i : Int)) := h36
            subst hF
            go_wp2_with (fail)
            exact ⟨rfl, rfl, (Below.refl _ _), rfl⟩
        intro uF W5 hC' hU aF hF
        have hCW5 : Below wr.heap.size wr W5 := hC'
        clear hC'
        have h59 : (Det (.agg (arr8 jj))) (uF 27) W5 := hU.2.2.2.2.2.2.2.2.2.2.2.2.2.2.2.2.2.2.2.2.2.2.2.2.2.2.2.1
        have h60 : (Det (.pointer (some ⟨gr, i * 32, none⟩))) (uF 28) W5 := hU.2.2.2.2.2.2.2.2.2.2.2.2.2.2.2.2.2.2.2.2.2.2.2.2.2.2.2.2.1
        clear hU
        simp only [List.take_succ_cons, List.take_zero, puts, Act.put, List.setIfInBounds_toArray, List.set_cons_zero, List.set_cons_succ] at hF
        generalize uF 0 = x32 at hF
        generalize uF 1 = x33 at hF
        generalize uF 2 = x34 at hF
        generalize uF 3 = x35 at hF
        generalize uF 4 = x36 at hF
        generalize uF 5 = x37 at hF
        generalize uF 6 = x38 at hF
        generalize uF 7 = x39 at hF
        generalize uF 8 = x40 at hF
        generalize uF 9 = x41 at hF
        generalize uF 10 = x42 at hF
        generalize uF 11 = x43 at hF
        generalize uF 12 = x44 at hF
        generalize uF 13 = x45 at hF
        generalize uF 14 = x46 at hF
        generalize uF 15 = x47 at hF
        generalize uF 16 = x48 at hF
        generalize uF 17 = x49 at hF
        generalize uF 18 = x50 at hF
        generalize uF 19 = x51 at hF
        generalize uF 20 = x52 at hF
        generalize uF 21 = x53 at hF
        generalize uF 22 = x54 at hF
        generalize uF 23 = x55 at hF
        generalize uF 24 = x56 at hF
        generalize uF 25 = x57 at hF
        generalize uF 26 = x58 at hF
        generalize uF 27 = x59 at h59 hF
        generalize uF 28 = x60 at h60 hF
        obtain rfl : x59 = (.agg (arr8 jj)) := h59
        obtain rfl : x60 = (.pointer (some ⟨gr, i * 32, none⟩)) := h60
        subst hF
        simp only [List.drop_succ_cons, List.drop_zero]
        refine wpListIn_of free_wide ?_ rfl ?_
        · rintro ⟨_, _, h⟩
          obtain ⟨_, _, h1, _⟩ := h
          cases h1
        refine wpList_storeS rfl 40 (.tmp 60) (.tmp 59) rfl gr i rfl jj rfl agg44 hlj (OwS.below H9.out hCW5) (by omega) ?_
        intro w6 h6 hg6 hs6
        obtain ⟨e1, e2, e3, e4⟩ := HF.out W5 w6 jj hCW5 h6 HJE.out hg6
        simp only [Act.put]
        clear hs6 hg6 h6
        go_wp2_with fail
        exact ⟨⟨k + 1, by omega, by go_num, e1, e2, e3, e4⟩, by simp [intOf]; omega⟩
    · obtain rfl : k = 5 := by omega
      have hki : ¬ ((5 : Nat) : Int) < 5 := by omega
      go_wp2_with fail
      go_ret
      exact ⟨gr, c2, rfl, h9, hw⟩
end Go.Proofs.Ytbjiokjmidipaaa

