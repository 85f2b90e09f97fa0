/-
  LoginHello: a greeting begins anew (printed by wip/gen_login9.py).
-/
import Derived.Test.YtiadfbcdopfibaaLoginK
namespace Go.Proofs.Ytiadfbcdopfibaa.loginHello
open Go.RowKit Go.Proofs.Ytiadfbcdopfibaa
set_option linter.unusedVariables false
set_option linter.unusedSimpArgs false
set_option maxRecDepth 100000

set_option maxHeartbeats 4000000 in
theorem walk (A1 : Option Addr) (n1 c1 : Nat) (zs1 : List Int) (cs0 : List Value) (w : World) (w1 : Sl w w.heap.size 1 A1 n1 c1 (zs1.map (Value.int .i64))) (x1 : ∀ z ∈ zs1, (Lit.int .i64 z).wf = true) (y1 : c1 * 8 ≤ 140737488351232) (R0 : Rds w (.cons (.int .i64) (.cons (.int .i64) (.cons (.slice (.int .u8) 1 1) (.cons (.slice (.int .u8) 1 1) .nil)))) cs0) :
    Calls Try.prog 4 #[.agg cs0.toArray, .slice A1 n1 c1] w fun e w' => e = .returned (.bool true) ∧ Below w.heap.size w w' := by
  obtain ⟨_, _, rfl, r0, _, _, rfl, r1, _, _, rfl, r2, _, _, rfl, r3, rfl⟩ := R0
  obtain ⟨tn, rfl, hx0⟩ := r0
  obtain ⟨init, rfl, hx1⟩ := r1
  obtain ⟨At, nt, ct, th, rfl, ht, yt⟩ := Rds.bytes r2
  obtain ⟨Ao, no, co, ou, rfl, ho, yo⟩ := Rds.bytes r3
  clear r2 r3 x1 hx0 hx1
  simp only [List.cons_append, List.nil_append, List.append_nil]
  have hlen : zs1.length = n1 := by have := w1.1; simpa using this
  have hmc : n1 ≤ c1 := w1.2.1
  have hnt := Nat.le_trans ht.le yt
  have hno := Nat.le_trans ho.le yo
  have hthl : th.length = nt := ht.len
  have houl : ou.length = no := ho.len
  obtain ⟨gc, hgc⟩ : ∃ g, g = w.heap.size := ⟨_, rfl⟩
  obtain ⟨v, hv⟩ : ∃ v, v = w.alloc (.cells #[.int .i64 tn, .int .i64 init, .slice At nt ct, .slice Ao no co] 24) := ⟨_, rfl⟩
  have b1 : Blk v gc 24 #[.int .i64 tn, .int .i64 init, .slice At nt ct, .slice Ao no co] := by rw [hv, hgc]; exact Blk.new _ _ _
  have hbv : Below w.heap.size w v := by rw [hv]; exact below_alloc _ _
  have hz1 : v.heap.size = w.heap.size + 1 := by rw [hv, World.size_alloc]
  have hz := hbv.size
  have HZ1 := Lib.hid hz1
  have HV := Lib.hid hv
  have HB1 := Lib.hid b1
  have HT := Lib.hid ht
  have HO := Lib.hid ho
  have HS := Lib.hid w1
  have HL := Lib.hid hlen
  have HTL := Lib.hid hthl
  have HOL := Lib.hid houl
  have HGC := Lib.hid hgc
  clear hv b1 ht ho w1 hthl houl hlen hz1 hgc
  go_enter Try.func4, Try.ntmps4
  by_cases hbig : (2000 : Int) < (no : Int) + (nt : Int)
  · go_wp2_with (go_at_call 11; rw [← HV.out]; refine (alive_c v).mono ?_; rintro e v1 ⟨rfl, hb1⟩; have b11 := HB1.out.below hb1 HB1.out.lt; have hz11 := hb1.size; have HWV1 := Lib.hid (hbv.trans (hb1.mono hz)); have d2 : v1.cell? ⟨w.heap.size, 2, none⟩ = some (.slice At nt ct) := (by rw [← HGC.out, b11.cell]; rfl); have d3 : v1.cell? ⟨w.heap.size, 3, none⟩ = some (.slice Ao no co) := (by rw [← HGC.out, b11.cell]; rfl))
    go_ret
    exact ⟨rfl, HWV1.out⟩
  by_cases hbig2 : (60 : Int) < (n1 : Int)
  · go_wp2_with (go_at_call 11; rw [← HV.out]; refine (alive_c v).mono ?_; rintro e v1 ⟨rfl, hb1⟩; have b11 := HB1.out.below hb1 HB1.out.lt; have hz11 := hb1.size; have HWV1 := Lib.hid (hbv.trans (hb1.mono hz)); have d2 : v1.cell? ⟨w.heap.size, 2, none⟩ = some (.slice At nt ct) := (by rw [← HGC.out, b11.cell]; rfl); have d3 : v1.cell? ⟨w.heap.size, 3, none⟩ = some (.slice Ao no co) := (by rw [← HGC.out, b11.cell]; rfl))
    go_ret
    exact ⟨rfl, HWV1.out⟩
  have hsum : no + nt ≤ 2000 := by omega
  have hn60 : n1 ≤ 60 := by omega
  have hBZ := buildSumZ
  go_wp2_with (first
    | (go_at_call 11; rw [← HV.out]; refine (alive_c v).mono ?_; rintro e v1 ⟨rfl, hb1⟩; have b11 := HB1.out.below hb1 HB1.out.lt; have hz11 := hb1.size; have HWV1 := Lib.hid (hbv.trans (hb1.mono hz)); have d2 : v1.cell? ⟨w.heap.size, 2, none⟩ = some (.slice At nt ct) := (by rw [← HGC.out, b11.cell]; rfl); have d3 : v1.cell? ⟨w.heap.size, 3, none⟩ = some (.slice Ao no co) := (by rw [← HGC.out, b11.cell]; rfl))
    | ((with_reducible show wpList _ _ _ (Oper.mk (some 26) (Op.load 24 (.tmp 2)) _ _ _ _ :: _) _ _); refine wpList_load_whole rfl 24 (.tmp 2) rfl gc (by rw [HGC.out]; rfl) #[.int .i64 tn, .int .i64 init, .slice At nt ct, .slice Ao no co] aggSec rfl _ b11 ?_)
    | (go_at_call 12; refine (new_c (HT.out.below HWV1.out) (HO.out.below HWV1.out) HWV1.out.size (by omega) (by omega)).mono ?_; rintro e v2 ⟨gs, rfl, hse2, hb2⟩; have hz2 := hb2.size; have hgs2 := hse2.hb; have hgl2 := hse2.lt; have HE2 := Lib.hid hse2; have b12 := b11.below hb2 b11.lt; clear hse2; have bs4 := Blk.new v2 34 (arr8 (z8' 32)); have hbs4 := below_alloc v2 (.cells (arr8 (z8' 32)) 34))
    | ((with_reducible show wpList _ _ _ (Oper.mk (some 6) (Op.alloc _) _ _ _ _ :: _) _ _); refine wpList_alloc_agg rfl 34 rfl (arr8 (z8' 32)) zero44 ?_)
    | ((with_reducible show wpList _ _ _ (Oper.mk none (Op.store 34 (.tmp 6) _) _ _ _ _ :: _) _ _); refine wpList_store8 rfl 34 (.tmp 6) (.tmp 28) rfl v2.heap.size rfl (z8' 32) rfl agg44 (len_z8' 32) _ _ bs4 (by rw [size_arr8, len_z8']) ?_; intro v3 b3 q3 s3; have hb3 := hbs4.grown q3 hbs4.size (fun k hk => by cases hk; exact Nat.le_refl _)))
  have hz3 := hb3.size
  have hse3 := HE2.out.below hb3
  have b13 := b12.below hb3 b12.lt
  have HW3 := Lib.hid (((HWV1.out.trans (hb2.mono (by omega))).trans (hb3.mono (by omega))) : Below w.heap.size w v3)
  have hbs4z := hbs4.size
  have HG6 : v2.heap.size ≠ gs := by omega
  have HGN : gc ≠ gs := by have := HGC.out; have := HZ1.out; omega
  have HGN6 : gc ≠ v2.heap.size := by have := HGC.out; have := HZ1.out; omega
  have hgw : w.heap.size ≤ gs := by omega
  have hgw6 : w.heap.size ≤ v2.heap.size := by omega
  obtain ⟨g6, hg6⟩ : ∃ g, g = v2.heap.size := ⟨_, rfl⟩
  have hz6 : v1.heap.size ≤ g6 := by omega
  rw [← hg6] at b3 HG6 HGN6 hgw6
  have HB13 := Lib.hid b13
  have HB6 := Lib.hid b3
  have HE3 := Lib.hid hse3
  have HG26 := Lib.hid hg6
  rw [← HG26.out]
  clear b11 b12 b13 hse3 HE2 d2 d3 bs4 hbs4 q3 s3 HB1 b3 hg6 hbs4z hz2 hgs2 hgl2
  go_loopw [31] (fun v31 wr => ∃ (i : Nat) (s : Sst) (el : List UInt8), i ≤ n1 ∧ v31 = .int .i64 (i : Int) ∧ s.gr = i ∧ (0 ≤ s.nx ∧ s.nx ≤ 1) ∧ el.length = 32 ∧ Se wr v1.heap.size gs init th ou s.st (s.gr : Int) s.ch s.nx ∧ Blk wr g6 34 (arr8 el) ∧ Blk wr gc 24 #[.int .i64 tn, .int .i64 init, .slice At nt ct, .slice Ao no co] ∧ Below w.heap.size w wr) (fun v31 _ => n1 - (intOf v31).toNat)
  case atStart => exact ⟨0, ⟨0, 0, 0, z8' 32⟩, z8' 32, by omega, rfl, rfl, ⟨by decide, by decide⟩, len_z8' 32, HE3.out, HB6.out, HB13.out, HW3.out⟩
  case round =>
    obtain ⟨i, s, el, hi, rfl, hgr, hnx, hel, hse, hb6, hbc, hw⟩ := hrel
    have hzw := hw.size
    have hi0 : (0 : Int) ≤ (i : Int) := by omega
    by_cases hlt : i < n1
    · have hil : (i : Int) < (n1 : Int) := by omega
      have hi60 : (i : Int) ≤ 60 := by omega
      obtain ⟨ga, off, rfl, hga, hcells⟩ := HS.out.2.2.2 (by omega)
      obtain ⟨z, hzz⟩ : ∃ z, zs1[i]? = some z := ⟨zs1[i]'(by rw [HL.out]; exact hlt), List.getElem?_eq_getElem _⟩
      have dz : wr.cell? ⟨ga, off + i, none⟩ = some (.int .i64 z) := (hw.cell (p := ⟨ga, off + i, none⟩) hga).trans (hcells i _ (by rw [List.getElem?_map, hzz]; rfl))
      have hBO := buildOp z
      have HE := Lib.hid hse
      have HEL := Lib.hid hel
      have HW := Lib.hid hw
      have HNX := Lib.hid hnx
      have HGR := Lib.hid hgr
      have HC6 := Lib.hid hb6
      have HCC := Lib.hid hbc
      have hgsl := hse.lt
      have hg6l := hb6.lt
      have hgcl := hbc.lt
      have hgsb := hse.hb
      clear hse hw hel hnx hgr hb6 hbc hcells hzz
      go_wp2_with (first
        | (go_at_call 13; refine (draw_c _ _ _ z _ _ _ _ wr).mono ?_; rintro e w4 ⟨rfl, hb4⟩; have hz4 := hb4.size; obtain ⟨dd, hdd⟩ : ∃ d : List UInt8, d = drawOf z := ⟨_, rfl⟩; have HDL := Lib.hid (show dd.length = 32 by rw [hdd]; exact len_drawOf z); rw [← hdd]; clear hdd; have bs4 := Blk.new w4 34 (arr8 (z8' 32)); have hbs4 := below_alloc w4 (.cells (arr8 (z8' 32)) 34))
        | ((with_reducible show wpList _ _ _ (Oper.mk (some 9) (Op.alloc _) _ _ _ _ :: _) _ _); refine wpList_alloc_agg rfl 34 rfl (arr8 (z8' 32)) zero44 ?_)
        | ((with_reducible show wpList _ _ _ (Oper.mk none (Op.store 34 (.tmp 9) _) _ _ _ _ :: _) _ _); refine wpList_store8 rfl 34 (.tmp 9) (.tmp 38) rfl w4.heap.size rfl dd rfl agg44 HDL.out _ _ bs4 (by rw [size_arr8, len_z8']) ?_; intro w5 b9 q5 s5; have hb5 := hbs4.grown q5 hbs4.size (fun k hk => by cases hk; exact Nat.le_refl _)))
      have hb45 := hb4.trans (hb5.mono hz4)
      have hz5 := hb5.size
      have hl9 := b9.lt
      have HE5 := Lib.hid (HE.out.below hb45)
      have b65 := HC6.out.below hb45 hg6l
      have bc5 := HCC.out.below hb45 hgcl
      have HGS : gs < w5.heap.size := by omega
      have HN9 : w4.heap.size ≠ gs := by omega
      have hbs5 : v1.heap.size ≤ w5.heap.size := by omega
      have hB1 := buildFr1
      have hmk := fun W => run_make8 16 16 16 16 rfl rfl (Nat.le_refl _) (by omega) W
      have hh1 := hnd_yes (init := init) (th := th) (ou := ou) (s := s) (ds := z16) (dr := dd) ⟨by decide, by decide⟩ ((i : Int) + 1) (by rw [HGR.out]; omega)
      have HH1 := Lib.hid hh1
      clear s5 q5 bs4 hbs4 hh1
      go_wp2_with fail
      refine wp_norm ?_
      refine (wpIn_wide (n := 4)).1 ?_
      refine wpIn_region_relS free_wide rfl 7 (Fr [gs]) (fun W W' => Below W.heap.size W W') 6 (SC v1.heap.size gs init th ou s (⟨1, s.gr + 1, s.nx, dd⟩ : Sst) w5)
        [Det (.pointer (some ⟨gs, 0, none⟩)), Det (.pointer (some ⟨w.heap.size, 1, none⟩)), Det (.int .i64 init), RelO w5.heap.size 16 z16, RelG w5.heap.size 1 init 0 16 z16, Det (.agg (arr8 dd)), RelV w5.heap.size ⟨true, 2, (i : Int) + 1, 0, dd ++ ansOf ((i : Int) + 1) ou z16, true, false⟩]
        [[], [], [(1, some 40)], [], [(2, some 41), (3, some 42)], [], [(0, some 39), (4, some 43), (5, some 44)]]
        [[], [], [1], [], [1, 2, 3], [], [0, 1, 2, 3, 4, 5]]
        [(0, some 39), (1, some 40), (2, some 41), (3, some 42), (4, some 43), (5, some 44), (6, some 45)] (by kernel_rfl) (by kernel_rfl) (by kernel_rfl) (fun b W W1 h1 h2 => h1.step h2) (by decide) (SC.drew HE5.out) ?_ ?_ ?_
      · exact (AllMono.cons (Det.laterS HGS) (AllMono.cons (Det.laterS HGS) (AllMono.cons (Det.laterS HGS) (AllMono.cons (RelO.laterS HGS) (AllMono.cons (RelG.laterS HGS) (AllMono.cons (Det.laterS HGS) (AllMono.cons (RelV.laterS HGS) AllMono.nil)))))))
      · refine AllObS.cons (by decide) ?_ (AllObS.cons (by decide) ?_ (AllObS.cons (by decide) ?_ (AllObS.cons (by decide) ?_ (AllObS.cons (by decide) ?_ (AllObS.cons (by decide) ?_ (AllObS.call ?_ (AllObS.nil)))))))
        · intro bF uF W hC' hU aF hF
          have hC : SC v1.heap.size gs init th ou s (⟨1, s.gr + 1, s.nx, dd⟩ : Sst) w5 bF W := hC'
          clear hC'
          simp only [puts] at hF
          subst hF
          go_wp2_with (fail)
          exact ⟨rfl, rfl, (Below.refl _ _), rfl⟩
        · intro bF uF W hC' hU aF hF
          have hC : SC v1.heap.size gs init th ou s (⟨1, s.gr + 1, s.nx, dd⟩ : Sst) w5 bF W := hC'
          clear hC'
          simp only [puts] at hF
          subst hF
          go_wp2_with (fail)
          exact ⟨rfl, rfl, (Below.refl _ _), rfl⟩
        · intro bF uF W hC' hU aF hF
          have hC : SC v1.heap.size gs init th ou s (⟨1, s.gr + 1, s.nx, dd⟩ : Sst) w5 bF W := hC'
          clear hC'
          have h40 : (Det (.pointer (some ⟨w.heap.size, 1, none⟩))) (uF 1) W := hU.1
          clear hU
          simp only [puts, Act.put, List.setIfInBounds_toArray, List.set_cons_zero, List.set_cons_succ] at hF
          generalize uF 1 = x40 at h40 hF
          obtain rfl : x40 = (.pointer (some ⟨w.heap.size, 1, none⟩)) := h40
          subst hF
          have d1 : W.cell? ⟨w.heap.size, 1, none⟩ = some (.int .i64 init) := by rw [← HGC.out, (hC.blk bc5 HGN).cell]; rfl
          go_wp2_with (fail)
          exact ⟨rfl, rfl, (Below.refl _ _), rfl⟩
        · intro bF uF W hC' hU aF hF
          have hC : SC v1.heap.size gs init th ou s (⟨1, s.gr + 1, s.nx, dd⟩ : Sst) w5 bF W := hC'
          clear hC'
          simp only [puts] at hF
          subst hF
          go_wp2_with (fail)
          exact ⟨rfl, rfl, (below_alloc _ _), ⟨_, _, rfl, OwB.full _ _ 16 hC.size (by simp [maxLen])⟩⟩
        · intro bF uF W hC' hU aF hF
          have hC : SC v1.heap.size gs init th ou s (⟨1, s.gr + 1, s.nx, dd⟩ : Sst) w5 bF W := hC'
          clear hC'
          have h41 : (Det (.int .i64 init)) (uF 2) W := hU.1
          have h42 : (RelO w5.heap.size 16 z16) (uF 3) W := hU.2.1
          clear hU
          simp only [puts, Act.put, List.setIfInBounds_toArray, List.set_cons_zero, List.set_cons_succ] at hF
          generalize uF 2 = x41 at h41 hF
          generalize uF 3 = x42 at h42 hF
          obtain rfl : x41 = (.int .i64 init) := h41
          obtain ⟨A42, c42, rfl, s42⟩ := h42
          subst hF
          go_wp2_with (fail)
          exact ⟨rfl, rfl, (Below.refl _ _), ⟨_, _, rfl, s42⟩⟩
        · intro bF uF W hC' hU aF hF
          have hC : SC v1.heap.size gs init th ou s (⟨1, s.gr + 1, s.nx, dd⟩ : Sst) w5 bF W := hC'
          clear hC'
          simp only [puts] at hF
          subst hF
          go_wp2_with (((with_reducible show wpList _ _ _ (Oper.mk (some 44) (Op.load _ _) _ _ _ _ :: _) _ _); refine wpList_load_whole (by rfl) 34 (.tmp 9) rfl w4.heap.size rfl (arr8 dd) agg44 (by rw [size_arr8]; exact HDL.out) _ (hC.blk b9 HN9) ?_))
          exact ⟨rfl, rfl, (Below.refl _ _), rfl⟩
        · intro uF W hC' hU aF hF
          have hC : SC v1.heap.size gs init th ou s (⟨1, s.gr + 1, s.nx, dd⟩ : Sst) w5 false W := hC'
          clear hC'
          have h39 : (Det (.pointer (some ⟨gs, 0, none⟩))) (uF 0) W := hU.1
          have h43 : (RelG w5.heap.size 1 init 0 16 z16) (uF 4) W := hU.2.1
          have h44 : (Det (.agg (arr8 dd))) (uF 5) W := hU.2.2.1
          clear hU
          simp only [puts, Act.put, List.setIfInBounds_toArray, List.set_cons_zero, List.set_cons_succ] at hF
          generalize uF 0 = x39 at h39 hF
          generalize uF 4 = x43 at h43 hF
          generalize uF 5 = x44 at h44 hF
          obtain rfl : x39 = (.pointer (some ⟨gs, 0, none⟩)) := h39
          obtain ⟨A43, c43, rfl, o43⟩ := h43
          obtain rfl : x44 = (.agg (arr8 dd)) := h44
          subst hF
          go_wp2_with ((go_at_call 14; refine (handle_c (s := s) hC.se0 1 init 0 HDL.out hC.bw (by have := HGR.out; omega) (by have := HNX.out; omega) (by have := HNX.out; omega) (by have := HTL.out; omega) (by have := HOL.out; omega) (OwB.sl o43) (Nat.le_refl _) (own_far o43 HGS)).mono ?_; rintro e W1 hh; rw [HH1.out] at hh; obtain ⟨sv, rfl, hv, hh⟩ := hh))
          exact ⟨rfl, rfl, (hC.call2 hh), StepV.base_le hv hC.size⟩
      intro uF W6 hC' hU aF hF
      have hCW6 : SC v1.heap.size gs init th ou s (⟨1, s.gr + 1, s.nx, dd⟩ : Sst) w5 true W6 := hC'
      clear hC'
      clear hU
      simp only [List.take_succ_cons, List.take_zero, puts, Act.put, List.setIfInBounds_toArray, List.set_cons_zero, List.set_cons_succ] at hF
      generalize uF 0 = x39 at hF
      generalize uF 1 = x40 at hF
      generalize uF 2 = x41 at hF
      generalize uF 3 = x42 at hF
      generalize uF 4 = x43 at hF
      generalize uF 5 = x44 at hF
      generalize uF 6 = x45 at hF
      subst hF
      simp only [List.drop_succ_cons, List.drop_zero]
      refine wpListIn_of free_wide (fun ⟨_, _, h⟩ => h) rfl ?_
      refine wpList_nil ?_
      dsimp only [Exit.then]
      have hz6' := hCW6.size
      have hse6 := hCW6.se1
      have b66 := hCW6.blk b65 HG6
      have bc6 := hCW6.blk bc5 HGN
      have b96 := hCW6.blk b9 HN9
      have HE6 := Lib.hid hse6
      have HW6 := Lib.hid ((HW.out.trans (hb45.mono hzw)).trans (hCW6.bel.mono (by omega)))
      have hN6 := next_c HE6.out 0 (if_neg (by show ¬ (1 : Int) = 2; omega))
      go_wp2_with (first
        | (go_at_call 15; refine (state_c HE6.out).mono ?_; rintro e w9 ⟨rfl, rfl⟩)
        | (go_at_call 16; refine hN6.mono ?_; rintro e w9 ⟨rfl, rfl⟩))
      obtain ⟨rr, hrr⟩ : ∃ r, r = ansOf ((i : Int) + 1) th dd := ⟨_, rfl⟩
      have HRL := Lib.hid (show rr.length = 32 by rw [hrr]; exact len_ansOf _ _ _)
      have HRR := Lib.hid hrr
      have HT6 := Lib.hid ((HT.out.below HW6.out).more HW6.out.size)
      have hall9 := arr_off_run (P := Try.prog) (T := 34) Try.underlying34 size1 (by omega) w4.heap.size 0
      have hl96 := b96.lt
      clear hrr hse6
      refine wp_norm ?_
      refine (wpIn_wide (n := 4)).1 ?_
      refine wpIn_region_rel free_wide rfl 7 (fun W W' => Below W.heap.size W W') (fun W => Below W6.heap.size W6 W)
        [Det (.int .i64 (i : Int)), Det (.int .i64 ((i : Int) + 1)), Det (.pointer (some ⟨w.heap.size, 2, none⟩)), Det (.slice At nt ct), Det (.slice (some ⟨w4.heap.size, 0, none⟩) 32 32), Det (.agg (arr8 rr)), RelW W6.heap.size 34 (arr8 (z8' 32)), Any]
        [[], [(0, some 54)], [], [(2, some 56)], [], [(1, some 55), (3, some 57), (4, some 58)], [], [(6, some 10), (5, some 59)]]
        [[], [0], [], [2], [], [0, 1, 2, 3, 4], [], [0, 1, 2, 3, 4, 5, 6]]
        [(0, some 54), (1, some 55), (2, some 56), (3, some 57), (4, some 58), (5, some 59), (6, some 10), (7, none)] (by kernel_rfl) (by kernel_rfl) (by kernel_rfl) (fun W W' h1 h2 => h1.trans (h2.mono h1.size)) ((Below.refl _ _).drew) ?_ ?_ ?_
      · exact (AllMono.cons Det.later (AllMono.cons Det.later (AllMono.cons Det.later (AllMono.cons Det.later (AllMono.cons Det.later (AllMono.cons Det.later (AllMono.cons RelW.later (AllMono.cons Any.later AllMono.nil))))))))
      · refine AllOb.cons ?_ (AllOb.cons ?_ (AllOb.cons ?_ (AllOb.cons ?_ (AllOb.cons ?_ (AllOb.cons ?_ (AllOb.cons ?_ (AllOb.nil)))))))
        · intro uF W hC' hU aF hF
          have hC : Below W6.heap.size W6 W := hC'
          clear hC'
          simp only [puts] at hF
          subst hF
          go_wp2_with (fail)
          exact ⟨rfl, rfl, (Below.refl _ _), rfl⟩
        · intro uF W hC' hU aF hF
          have hC : Below W6.heap.size W6 W := hC'
          clear hC'
          have h54 : (Det (.int .i64 (i : Int))) (uF 0) W := hU.1
          clear hU
          simp only [puts, Act.put, List.setIfInBounds_toArray, List.set_cons_zero, List.set_cons_succ] at hF
          generalize uF 0 = x54 at h54 hF
          obtain rfl : x54 = (.int .i64 (i : Int)) := h54
          subst hF
          go_wp2_with (fail)
          exact ⟨rfl, rfl, (Below.refl _ _), rfl⟩
        · intro uF W hC' hU aF hF
          have hC : Below W6.heap.size W6 W := hC'
          clear hC'
          simp only [puts] at hF
          subst hF
          go_wp2_with (fail)
          exact ⟨rfl, rfl, (Below.refl _ _), rfl⟩
        · intro uF W hC' hU aF hF
          have hC : Below W6.heap.size W6 W := hC'
          clear hC'
          have h56 : (Det (.pointer (some ⟨w.heap.size, 2, none⟩))) (uF 2) W := hU.1
          clear hU
          simp only [puts, Act.put, List.setIfInBounds_toArray, List.set_cons_zero, List.set_cons_succ] at hF
          generalize uF 2 = x56 at h56 hF
          obtain rfl : x56 = (.pointer (some ⟨w.heap.size, 2, none⟩)) := h56
          subst hF
          have d1 : W.cell? ⟨w.heap.size, 2, none⟩ = some (.slice At nt ct) := by rw [← HGC.out, (bc6.below hC bc6.lt).cell]; rfl
          go_wp2_with (fail)
          exact ⟨rfl, rfl, (Below.refl _ _), rfl⟩
        · intro uF W hC' hU aF hF
          have hC : Below W6.heap.size W6 W := hC'
          clear hC'
          simp only [puts] at hF
          subst hF
          go_wp2_with (fail)
          exact ⟨rfl, rfl, (Below.refl _ _), rfl⟩
        · intro uF W hC' hU aF hF
          have hC : Below W6.heap.size W6 W := hC'
          clear hC'
          have h55 : (Det (.int .i64 ((i : Int) + 1))) (uF 1) W := hU.1
          have h57 : (Det (.slice At nt ct)) (uF 3) W := hU.2.1
          have h58 : (Det (.slice (some ⟨w4.heap.size, 0, none⟩) 32 32)) (uF 4) W := hU.2.2.1
          clear hU
          simp only [puts, Act.put, List.setIfInBounds_toArray, List.set_cons_zero, List.set_cons_succ] at hF
          generalize uF 1 = x55 at h55 hF
          generalize uF 3 = x57 at h57 hF
          generalize uF 4 = x58 at h58 hF
          obtain rfl : x55 = (.int .i64 ((i : Int) + 1)) := h55
          obtain rfl : x57 = (.slice At nt ct) := h57
          obtain rfl : x58 = (.slice (some ⟨w4.heap.size, 0, none⟩) 32 32) := h58
          subst hF
          go_wp2_with ((go_at_call 17; refine (refanswer_c ((i : Int) + 1) ((HT6.out.below hC).more hC.size) (sum_sl (b96.below hC b96.lt) HDL.out) (Nat.le_refl _) (by omega) (by omega)).mono ?_; rintro e W1 ⟨rfl, hb⟩; rw [← HRR.out]))
          exact ⟨rfl, rfl, hb, rfl⟩
        · intro uF W hC' hU aF hF
          have hC : Below W6.heap.size W6 W := hC'
          clear hC'
          simp only [puts] at hF
          subst hF
          go_wp2_with (((with_reducible show wpList _ _ _ (Oper.mk (some 10) (Op.alloc _) _ _ _ _ :: _) _ _); refine wpList_alloc_agg (by rfl) 34 rfl (arr8 (z8' 32)) zero44 ?_))
          exact ⟨rfl, rfl, (below_alloc _ _), ⟨_, rfl, hC.size, Blk.new _ _ _⟩⟩
      intro uF W7 hC' hU aF hF
      have hCW7 : Below W6.heap.size W6 W7 := hC'
      clear hC'
      have h59 : (Det (.agg (arr8 rr))) (uF 5) W7 := hU.2.2.2.2.2.1
      have h10 : (RelW W6.heap.size 34 (arr8 (z8' 32))) (uF 6) W7 := hU.2.2.2.2.2.2.1
      clear hU
      simp only [List.take_succ_cons, List.take_zero, puts, Act.put, List.setIfInBounds_toArray, List.set_cons_zero, List.set_cons_succ] at hF
      generalize uF 0 = x54 at hF
      generalize uF 1 = x55 at hF
      generalize uF 2 = x56 at hF
      generalize uF 3 = x57 at hF
      generalize uF 4 = x58 at hF
      generalize uF 5 = x59 at h59 hF
      generalize uF 6 = x10 at h10 hF
      obtain rfl : x59 = (.agg (arr8 rr)) := h59
      obtain ⟨g10, rfl, z10, b10⟩ := h10
      subst hF
      simp only [List.drop_succ_cons, List.drop_zero]
      refine wpListIn_of free_wide (fun ⟨_, _, h⟩ => h) rfl ?_
      refine wpList_store8 rfl 34 (.tmp 10) (.tmp 59) rfl g10 rfl rr rfl agg44 HRL.out _ _ b10 (by rw [size_arr8, len_z8']) ?_
      intro w8 b8 q8 s8
      simp only [Act.put, List.setIfInBounds_toArray, List.set_cons_succ, List.set_cons_zero]
      refine wpList_nil ?_
      dsimp only [Exit.then]
      have hb78 : Below W6.heap.size W6 w8 := hCW7.grown q8 hCW7.size (fun k hk => by cases hk; exact z10)
      have hz8 := hb78.size
      have b68 := b66.below hb78 b66.lt
      have bc8 := bc6.below hb78 bc6.lt
      have b98 := b96.below hb78 b96.lt
      have HE8 := Lib.hid (HE6.out.below hb78)
      have HW8 := Lib.hid (HW6.out.trans (hb78.mono HW6.out.size))
      have hl8 := HE8.out.lt
      have HNA : g10 ≠ gs := by have := HE6.out.lt; omega
      have HN6 : g6 ≠ gs := HG6
      have hbs8 : v1.heap.size ≤ w8.heap.size := by omega
      clear s8 q8 b66 bc6 b96 b10 HE6 hN6
      have hgd := guard44
      by_cases hi1 : i = 0
      · have hip : ¬ (0 : Int) < (i : Int) := by omega
        have HH2 := Lib.hid (hnd_right (init := init) (th := th) (ou := ou) (s := (⟨1, s.gr + 1, s.nx, dd⟩ : Sst)) (ds := rr) (dr := dd) rfl 0 ((i : Int) + 1) (by show (((s.gr + 1) % 256 : Nat) : Int) = _; rw [HGR.out]; omega) (by show (ansOf ((i : Int) + 1) th dd == rr) = true; rw [← HRR.out]; exact beq_self_eq_true _))
        have hB3 := buildFr3
        go_wp2_with (first
          | ((with_reducible show wpList _ _ _ (Oper.mk (some 63) (Op.load 34 (.tmp 6)) _ _ _ _ :: _) _ _); refine wpList_load_whole (by simp [Region.wanted, yielded]; omega) 34 (.tmp 6) rfl g6 rfl (arr8 el) agg44 (by rw [size_arr8]; exact HEL.out) _ b68 ?_; simp only [Act.put, List.setIfInBounds_toArray, List.set_cons_succ, List.set_cons_zero])
          | ((with_reducible show wpList _ _ _ (Oper.mk (some 64) (Op.load 34 (.tmp 10)) _ _ _ _ :: _) _ _); refine wpList_load_whole (by simp [Region.wanted, yielded]; omega) 34 (.tmp 10) rfl g10 rfl (arr8 rr) agg44 (by rw [size_arr8]; exact HRL.out) _ b8 ?_; simp only [Act.put, List.setIfInBounds_toArray, List.set_cons_succ, List.set_cons_zero]))
        refine wp_norm ?_
        refine (wpIn_wide (n := 4)).1 ?_
        refine wpIn_region_relS free_wide rfl 5 (Fr [gs]) (fun W W' => Below W.heap.size W W') 4 (SC v1.heap.size gs init th ou (⟨1, s.gr + 1, s.nx, dd⟩ : Sst) (⟨2, s.gr + 1, 1, dd⟩ : Sst) w8)
          [Det (.pointer (some ⟨gs, 0, none⟩)), Det (.slice (some ⟨g10, 0, none⟩) 32 32), Det (.agg #[.int .i64 3, .int .i64 0, .int .i64 0, .slice (some ⟨g10, 0, none⟩) 32 32]), Det (.agg (arr8 dd)), RelV w8.heap.size ⟨true, 4, 0, 0, [], false, false⟩]
          [[], [], [(1, some 76)], [], [(0, some 75), (2, some 77), (3, some 78)]]
          [[], [], [1], [], [0, 1, 2, 3]]
          [(0, some 75), (1, some 76), (2, some 77), (3, some 78), (4, some 79)] (by kernel_rfl) (by kernel_rfl) (by kernel_rfl) (fun b W W1 h1 h2 => h1.step h2) (by decide) (SC.drew HE8.out) ?_ ?_ ?_
        · exact (AllMono.cons (Det.laterS hl8) (AllMono.cons (Det.laterS hl8) (AllMono.cons (Det.laterS hl8) (AllMono.cons (Det.laterS hl8) (AllMono.cons (RelV.laterS hl8) AllMono.nil)))))
        · refine AllObS.cons (by decide) ?_ (AllObS.cons (by decide) ?_ (AllObS.cons (by decide) ?_ (AllObS.cons (by decide) ?_ (AllObS.call ?_ (AllObS.nil)))))
          · intro bF uF W hC' hU aF hF
            have hC : SC v1.heap.size gs init th ou (⟨1, s.gr + 1, s.nx, dd⟩ : Sst) (⟨2, s.gr + 1, 1, dd⟩ : Sst) w8 bF W := hC'
            clear hC'
            simp only [puts] at hF
            subst hF
            go_wp2_with (fail)
            exact ⟨rfl, rfl, (Below.refl _ _), rfl⟩
          · intro bF uF W hC' hU aF hF
            have hC : SC v1.heap.size gs init th ou (⟨1, s.gr + 1, s.nx, dd⟩ : Sst) (⟨2, s.gr + 1, 1, dd⟩ : Sst) w8 bF W := hC'
            clear hC'
            simp only [puts] at hF
            subst hF
            have hto := arr_off_run (P := Try.prog) (T := 34) Try.underlying34 size1 (by omega) g10 0
            go_wp2_with (fail)
            exact ⟨rfl, rfl, (Below.refl _ _), rfl⟩
          · intro bF uF W hC' hU aF hF
            have hC : SC v1.heap.size gs init th ou (⟨1, s.gr + 1, s.nx, dd⟩ : Sst) (⟨2, s.gr + 1, 1, dd⟩ : Sst) w8 bF W := hC'
            clear hC'
            have h76 : (Det (.slice (some ⟨g10, 0, none⟩) 32 32)) (uF 1) W := hU.1
            clear hU
            simp only [puts, Act.put, List.setIfInBounds_toArray, List.set_cons_zero, List.set_cons_succ] at hF
            generalize uF 1 = x76 at h76 hF
            obtain rfl : x76 = (.slice (some ⟨g10, 0, none⟩) 32 32) := h76
            subst hF
            go_wp2_with (fail)
            exact ⟨rfl, rfl, (Below.refl _ _), rfl⟩
          · intro bF uF W hC' hU aF hF
            have hC : SC v1.heap.size gs init th ou (⟨1, s.gr + 1, s.nx, dd⟩ : Sst) (⟨2, s.gr + 1, 1, dd⟩ : Sst) w8 bF W := hC'
            clear hC'
            simp only [puts] at hF
            subst hF
            go_wp2_with (((with_reducible show wpList _ _ _ (Oper.mk (some 78) (Op.load _ _) _ _ _ _ :: _) _ _); refine wpList_load_whole (by rfl) 34 (.tmp 9) rfl w4.heap.size rfl (arr8 dd) agg44 (by rw [size_arr8]; exact HDL.out) _ (hC.blk b98 HN9) ?_))
            exact ⟨rfl, rfl, (Below.refl _ _), rfl⟩
          · intro uF W hC' hU aF hF
            have hC : SC v1.heap.size gs init th ou (⟨1, s.gr + 1, s.nx, dd⟩ : Sst) (⟨2, s.gr + 1, 1, dd⟩ : Sst) w8 false W := hC'
            clear hC'
            have h75 : (Det (.pointer (some ⟨gs, 0, none⟩))) (uF 0) W := hU.1
            have h77 : (Det (.agg #[.int .i64 3, .int .i64 0, .int .i64 0, .slice (some ⟨g10, 0, none⟩) 32 32])) (uF 2) W := hU.2.1
            have h78 : (Det (.agg (arr8 dd))) (uF 3) W := hU.2.2.1
            clear hU
            simp only [puts, Act.put, List.setIfInBounds_toArray, List.set_cons_zero, List.set_cons_succ] at hF
            generalize uF 0 = x75 at h75 hF
            generalize uF 2 = x77 at h77 hF
            generalize uF 3 = x78 at h78 hF
            obtain rfl : x75 = (.pointer (some ⟨gs, 0, none⟩)) := h75
            obtain rfl : x77 = (.agg #[.int .i64 3, .int .i64 0, .int .i64 0, .slice (some ⟨g10, 0, none⟩) 32 32]) := h77
            obtain rfl : x78 = (.agg (arr8 dd)) := h78
            subst hF
            go_wp2_with ((go_at_call 14; refine (handle_c (s := (⟨1, s.gr + 1, s.nx, dd⟩ : Sst)) hC.se0 3 0 0 HDL.out hC.bw (by show s.gr + 1 ≤ 1000000; have := HGR.out; omega) (show 0 ≤ s.nx from HNX.out.1) (show s.nx ≤ 1000000 by have := HNX.out; omega) (by have := HTL.out; omega) (by have := HOL.out; omega) (sum_sl (hC.blk b8 HNA) HRL.out) (Nat.le_refl _) (fun _ b off e => by cases e; exact HNA)).mono ?_; rintro e W1 hh; rw [HH2.out] at hh; obtain ⟨sv, rfl, hv, hh⟩ := hh))
            exact ⟨rfl, rfl, (hC.call2 hh), StepV.base_le hv hC.size⟩
        intro uF W9 hC' hU aF hF
        have hCW9 : SC v1.heap.size gs init th ou (⟨1, s.gr + 1, s.nx, dd⟩ : Sst) (⟨2, s.gr + 1, 1, dd⟩ : Sst) w8 true W9 := hC'
        clear hC'
        clear hU
        simp only [List.take_succ_cons, List.take_zero, puts, Act.put, List.setIfInBounds_toArray, List.set_cons_zero, List.set_cons_succ] at hF
        generalize uF 0 = x75 at hF
        generalize uF 1 = x76 at hF
        generalize uF 2 = x77 at hF
        generalize uF 3 = x78 at hF
        generalize uF 4 = x79 at hF
        subst hF
        simp only [List.drop_succ_cons, List.drop_zero]
        refine wpListIn_of free_wide (fun ⟨_, _, h⟩ => h) rfl ?_
        refine wpList_nil ?_
        dsimp only [Exit.then]
        have HE9 := Lib.hid hCW9.se1
        have b69 := hCW9.blk b68 HN6
        have bc9 := hCW9.blk bc8 HGN
        have ba9 := hCW9.blk b8 HNA
        have hz9 := hCW9.size
        have HW9 := Lib.hid (HW8.out.trans (hCW9.bel.mono (by have := HW8.out.size; omega)))
        have hN9 := next_c HE9.out 1 (if_pos rfl)
        clear b68 bc8 b98 HE8 HW8
        go_wp2_with (first
          | (go_at_call 15; refine (state_c HE9.out).mono ?_; rintro e w9 ⟨rfl, rfl⟩)
          | (go_at_call 16; refine hN9.mono ?_; rintro e w9 ⟨rfl, rfl⟩)
          | ((with_reducible show wpList _ _ _ (Oper.mk (some 88) (Op.load 34 (.tmp 10)) _ _ _ _ :: _) _ _); refine wpList_load_whole (by rfl) 34 (.tmp 10) rfl g10 rfl (arr8 rr) agg44 (by rw [size_arr8]; exact HRL.out) _ ba9 ?_; simp only [Act.put, List.setIfInBounds_toArray, List.set_cons_succ, List.set_cons_zero])
          | ((with_reducible show wpList _ _ _ (Oper.mk none (Op.store 34 (.tmp 6) _) _ _ _ _ :: _) _ _); refine wpList_store8 rfl 34 (.tmp 6) (.tmp 88) rfl g6 rfl rr rfl agg44 HRL.out _ _ b69 (by rw [size_arr8]; exact HEL.out) ?_; intro wa ba6 qa sa; have HEA := Lib.hid (HE9.out.sumStep b69 qa); have bca := bc9.grown qa (by simpa using HGN6); have HWA := Lib.hid (HW9.out.grown qa HW9.out.size (fun k hk => by cases hk; exact hgw6))))
        exact ⟨⟨i + 1, (⟨2, s.gr + 1, 1, dd⟩ : Sst), rr, by omega, by go_num, by show s.gr + 1 = i + 1; rw [HGR.out], ⟨show (0 : Int) ≤ 1 by omega, show (1 : Int) ≤ 1 by omega⟩, HRL.out, HEA.out, ba6, bca, HWA.out⟩, by simp [intOf]; omega⟩
      have hip : (0 : Int) < (i : Int) := by omega
      by_cases heq : el = rr
      · have he := eq44 rr rr HRL.out HRL.out true (by simp)
        have HH2 := Lib.hid (hnd_right (init := init) (th := th) (ou := ou) (s := (⟨1, s.gr + 1, s.nx, dd⟩ : Sst)) (ds := rr) (dr := dd) rfl 0 ((i : Int) + 1) (by show (((s.gr + 1) % 256 : Nat) : Int) = _; rw [HGR.out]; omega) (by show (ansOf ((i : Int) + 1) th dd == rr) = true; rw [← HRR.out]; exact beq_self_eq_true _))
        have hB3 := buildFr3
        go_wp2_with (first
          | ((with_reducible show wpList _ _ _ (Oper.mk (some 63) (Op.load 34 (.tmp 6)) _ _ _ _ :: _) _ _); refine wpList_load_whole (by simp [Region.wanted, yielded]; omega) 34 (.tmp 6) rfl g6 rfl (arr8 el) agg44 (by rw [size_arr8]; exact HEL.out) _ b68 ?_; simp only [Act.put, List.setIfInBounds_toArray, List.set_cons_succ, List.set_cons_zero])
          | ((with_reducible show wpList _ _ _ (Oper.mk (some 64) (Op.load 34 (.tmp 10)) _ _ _ _ :: _) _ _); refine wpList_load_whole (by simp [Region.wanted, yielded]; omega) 34 (.tmp 10) rfl g10 rfl (arr8 rr) agg44 (by rw [size_arr8]; exact HRL.out) _ b8 ?_; simp only [Act.put, List.setIfInBounds_toArray, List.set_cons_succ, List.set_cons_zero]))
        refine wp_norm ?_
        refine (wpIn_wide (n := 4)).1 ?_
        refine wpIn_region_relS free_wide rfl 5 (Fr [gs]) (fun W W' => Below W.heap.size W W') 4 (SC v1.heap.size gs init th ou (⟨1, s.gr + 1, s.nx, dd⟩ : Sst) (⟨2, s.gr + 1, 1, dd⟩ : Sst) w8)
          [Det (.pointer (some ⟨gs, 0, none⟩)), Det (.slice (some ⟨g10, 0, none⟩) 32 32), Det (.agg #[.int .i64 3, .int .i64 0, .int .i64 0, .slice (some ⟨g10, 0, none⟩) 32 32]), Det (.agg (arr8 dd)), RelV w8.heap.size ⟨true, 4, 0, 0, [], false, false⟩]
          [[], [], [(1, some 76)], [], [(0, some 75), (2, some 77), (3, some 78)]]
          [[], [], [1], [], [0, 1, 2, 3]]
          [(0, some 75), (1, some 76), (2, some 77), (3, some 78), (4, some 79)] (by kernel_rfl) (by kernel_rfl) (by kernel_rfl) (fun b W W1 h1 h2 => h1.step h2) (by decide) (SC.drew HE8.out) ?_ ?_ ?_
        · exact (AllMono.cons (Det.laterS hl8) (AllMono.cons (Det.laterS hl8) (AllMono.cons (Det.laterS hl8) (AllMono.cons (Det.laterS hl8) (AllMono.cons (RelV.laterS hl8) AllMono.nil)))))
        · refine AllObS.cons (by decide) ?_ (AllObS.cons (by decide) ?_ (AllObS.cons (by decide) ?_ (AllObS.cons (by decide) ?_ (AllObS.call ?_ (AllObS.nil)))))
          · intro bF uF W hC' hU aF hF
            have hC : SC v1.heap.size gs init th ou (⟨1, s.gr + 1, s.nx, dd⟩ : Sst) (⟨2, s.gr + 1, 1, dd⟩ : Sst) w8 bF W := hC'
            clear hC'
            simp only [puts] at hF
            subst hF
            go_wp2_with (fail)
            exact ⟨rfl, rfl, (Below.refl _ _), rfl⟩
          · intro bF uF W hC' hU aF hF
            have hC : SC v1.heap.size gs init th ou (⟨1, s.gr + 1, s.nx, dd⟩ : Sst) (⟨2, s.gr + 1, 1, dd⟩ : Sst) w8 bF W := hC'
            clear hC'
            simp only [puts] at hF
            subst hF
            have hto := arr_off_run (P := Try.prog) (T := 34) Try.underlying34 size1 (by omega) g10 0
            go_wp2_with (fail)
            exact ⟨rfl, rfl, (Below.refl _ _), rfl⟩
          · intro bF uF W hC' hU aF hF
            have hC : SC v1.heap.size gs init th ou (⟨1, s.gr + 1, s.nx, dd⟩ : Sst) (⟨2, s.gr + 1, 1, dd⟩ : Sst) w8 bF W := hC'
            clear hC'
            have h76 : (Det (.slice (some ⟨g10, 0, none⟩) 32 32)) (uF 1) W := hU.1
            clear hU
            simp only [puts, Act.put, List.setIfInBounds_toArray, List.set_cons_zero, List.set_cons_succ] at hF
            generalize uF 1 = x76 at h76 hF
            obtain rfl : x76 = (.slice (some ⟨g10, 0, none⟩) 32 32) := h76
            subst hF
            go_wp2_with (fail)
            exact ⟨rfl, rfl, (Below.refl _ _), rfl⟩
          · intro bF uF W hC' hU aF hF
            have hC : SC v1.heap.size gs init th ou (⟨1, s.gr + 1, s.nx, dd⟩ : Sst) (⟨2, s.gr + 1, 1, dd⟩ : Sst) w8 bF W := hC'
            clear hC'
            simp only [puts] at hF
            subst hF
            go_wp2_with (((with_reducible show wpList _ _ _ (Oper.mk (some 78) (Op.load _ _) _ _ _ _ :: _) _ _); refine wpList_load_whole (by rfl) 34 (.tmp 9) rfl w4.heap.size rfl (arr8 dd) agg44 (by rw [size_arr8]; exact HDL.out) _ (hC.blk b98 HN9) ?_))
            exact ⟨rfl, rfl, (Below.refl _ _), rfl⟩
          · intro uF W hC' hU aF hF
            have hC : SC v1.heap.size gs init th ou (⟨1, s.gr + 1, s.nx, dd⟩ : Sst) (⟨2, s.gr + 1, 1, dd⟩ : Sst) w8 false W := hC'
            clear hC'
            have h75 : (Det (.pointer (some ⟨gs, 0, none⟩))) (uF 0) W := hU.1
            have h77 : (Det (.agg #[.int .i64 3, .int .i64 0, .int .i64 0, .slice (some ⟨g10, 0, none⟩) 32 32])) (uF 2) W := hU.2.1
            have h78 : (Det (.agg (arr8 dd))) (uF 3) W := hU.2.2.1
            clear hU
            simp only [puts, Act.put, List.setIfInBounds_toArray, List.set_cons_zero, List.set_cons_succ] at hF
            generalize uF 0 = x75 at h75 hF
            generalize uF 2 = x77 at h77 hF
            generalize uF 3 = x78 at h78 hF
            obtain rfl : x75 = (.pointer (some ⟨gs, 0, none⟩)) := h75
            obtain rfl : x77 = (.agg #[.int .i64 3, .int .i64 0, .int .i64 0, .slice (some ⟨g10, 0, none⟩) 32 32]) := h77
            obtain rfl : x78 = (.agg (arr8 dd)) := h78
            subst hF
            go_wp2_with ((go_at_call 14; refine (handle_c (s := (⟨1, s.gr + 1, s.nx, dd⟩ : Sst)) hC.se0 3 0 0 HDL.out hC.bw (by show s.gr + 1 ≤ 1000000; have := HGR.out; omega) (show 0 ≤ s.nx from HNX.out.1) (show s.nx ≤ 1000000 by have := HNX.out; omega) (by have := HTL.out; omega) (by have := HOL.out; omega) (sum_sl (hC.blk b8 HNA) HRL.out) (Nat.le_refl _) (fun _ b off e => by cases e; exact HNA)).mono ?_; rintro e W1 hh; rw [HH2.out] at hh; obtain ⟨sv, rfl, hv, hh⟩ := hh))
            exact ⟨rfl, rfl, (hC.call2 hh), StepV.base_le hv hC.size⟩
        intro uF W9 hC' hU aF hF
        have hCW9 : SC v1.heap.size gs init th ou (⟨1, s.gr + 1, s.nx, dd⟩ : Sst) (⟨2, s.gr + 1, 1, dd⟩ : Sst) w8 true W9 := hC'
        clear hC'
        clear hU
        simp only [List.take_succ_cons, List.take_zero, puts, Act.put, List.setIfInBounds_toArray, List.set_cons_zero, List.set_cons_succ] at hF
        generalize uF 0 = x75 at hF
        generalize uF 1 = x76 at hF
        generalize uF 2 = x77 at hF
        generalize uF 3 = x78 at hF
        generalize uF 4 = x79 at hF
        subst hF
        simp only [List.drop_succ_cons, List.drop_zero]
        refine wpListIn_of free_wide (fun ⟨_, _, h⟩ => h) rfl ?_
        refine wpList_nil ?_
        dsimp only [Exit.then]
        have HE9 := Lib.hid hCW9.se1
        have b69 := hCW9.blk b68 HN6
        have bc9 := hCW9.blk bc8 HGN
        have ba9 := hCW9.blk b8 HNA
        have hz9 := hCW9.size
        have HW9 := Lib.hid (HW8.out.trans (hCW9.bel.mono (by have := HW8.out.size; omega)))
        have hN9 := next_c HE9.out 1 (if_pos rfl)
        clear b68 bc8 b98 HE8 HW8
        go_wp2_with (first
          | (go_at_call 15; refine (state_c HE9.out).mono ?_; rintro e w9 ⟨rfl, rfl⟩)
          | (go_at_call 16; refine hN9.mono ?_; rintro e w9 ⟨rfl, rfl⟩)
          | ((with_reducible show wpList _ _ _ (Oper.mk (some 88) (Op.load 34 (.tmp 10)) _ _ _ _ :: _) _ _); refine wpList_load_whole (by rfl) 34 (.tmp 10) rfl g10 rfl (arr8 rr) agg44 (by rw [size_arr8]; exact HRL.out) _ ba9 ?_; simp only [Act.put, List.setIfInBounds_toArray, List.set_cons_succ, List.set_cons_zero])
          | ((with_reducible show wpList _ _ _ (Oper.mk none (Op.store 34 (.tmp 6) _) _ _ _ _ :: _) _ _); refine wpList_store8 rfl 34 (.tmp 6) (.tmp 88) rfl g6 rfl rr rfl agg44 HRL.out _ _ b69 (by rw [size_arr8]; exact HEL.out) ?_; intro wa ba6 qa sa; have HEA := Lib.hid (HE9.out.sumStep b69 qa); have bca := bc9.grown qa (by simpa using HGN6); have HWA := Lib.hid (HW9.out.grown qa HW9.out.size (fun k hk => by cases hk; exact hgw6))))
        exact ⟨⟨i + 1, (⟨2, s.gr + 1, 1, dd⟩ : Sst), rr, by omega, by go_num, by show s.gr + 1 = i + 1; rw [HGR.out], ⟨show (0 : Int) ≤ 1 by omega, show (1 : Int) ≤ 1 by omega⟩, HRL.out, HEA.out, ba6, bca, HWA.out⟩, by simp [intOf]; omega⟩
      · have he := eq44 el rr HEL.out HRL.out false (by simp [heq])
        have HH2 := Lib.hid (hnd_wrong (init := init) (th := th) (ou := ou) (s := (⟨1, s.gr + 1, s.nx, dd⟩ : Sst)) (ds := el) (dr := dd) rfl 0 ((i : Int) + 1) (by show (((s.gr + 1) % 256 : Nat) : Int) = _; rw [HGR.out]; omega) (by show (ansOf ((i : Int) + 1) th dd == el) = false; rw [← HRR.out]; simpa using fun e => heq e.symm))
        have hB3 := buildFr3
        go_wp2_with (first
          | ((with_reducible show wpList _ _ _ (Oper.mk (some 63) (Op.load 34 (.tmp 6)) _ _ _ _ :: _) _ _); refine wpList_load_whole (by simp [Region.wanted, yielded]; omega) 34 (.tmp 6) rfl g6 rfl (arr8 el) agg44 (by rw [size_arr8]; exact HEL.out) _ b68 ?_; simp only [Act.put, List.setIfInBounds_toArray, List.set_cons_succ, List.set_cons_zero])
          | ((with_reducible show wpList _ _ _ (Oper.mk (some 64) (Op.load 34 (.tmp 10)) _ _ _ _ :: _) _ _); refine wpList_load_whole (by simp [Region.wanted, yielded]; omega) 34 (.tmp 10) rfl g10 rfl (arr8 rr) agg44 (by rw [size_arr8]; exact HRL.out) _ b8 ?_; simp only [Act.put, List.setIfInBounds_toArray, List.set_cons_succ, List.set_cons_zero]))
        refine wp_norm ?_
        refine (wpIn_wide (n := 4)).1 ?_
        refine wpIn_region_relS free_wide rfl 5 (Fr [gs]) (fun W W' => Below W.heap.size W W') 4 (SC v1.heap.size gs init th ou (⟨1, s.gr + 1, s.nx, dd⟩ : Sst) (⟨0, s.gr + 1, s.nx, dd⟩ : Sst) w8)
          [Det (.pointer (some ⟨gs, 0, none⟩)), Det (.slice (some ⟨g6, 0, none⟩) 32 32), Det (.agg #[.int .i64 3, .int .i64 0, .int .i64 0, .slice (some ⟨g6, 0, none⟩) 32 32]), Det (.agg (arr8 dd)), RelV w8.heap.size (Out.rej 12)]
          [[], [], [(1, some 68)], [], [(0, some 67), (2, some 69), (3, some 70)]]
          [[], [], [1], [], [0, 1, 2, 3]]
          [(0, some 67), (1, some 68), (2, some 69), (3, some 70), (4, some 71)] (by kernel_rfl) (by kernel_rfl) (by kernel_rfl) (fun b W W1 h1 h2 => h1.step h2) (by decide) (SC.drew HE8.out) ?_ ?_ ?_
        · exact (AllMono.cons (Det.laterS hl8) (AllMono.cons (Det.laterS hl8) (AllMono.cons (Det.laterS hl8) (AllMono.cons (Det.laterS hl8) (AllMono.cons (RelV.laterS hl8) AllMono.nil)))))
        · refine AllObS.cons (by decide) ?_ (AllObS.cons (by decide) ?_ (AllObS.cons (by decide) ?_ (AllObS.cons (by decide) ?_ (AllObS.call ?_ (AllObS.nil)))))
          · intro bF uF W hC' hU aF hF
            have hC : SC v1.heap.size gs init th ou (⟨1, s.gr + 1, s.nx, dd⟩ : Sst) (⟨0, s.gr + 1, s.nx, dd⟩ : Sst) w8 bF W := hC'
            clear hC'
            simp only [puts] at hF
            subst hF
            go_wp2_with (fail)
            exact ⟨rfl, rfl, (Below.refl _ _), rfl⟩
          · intro bF uF W hC' hU aF hF
            have hC : SC v1.heap.size gs init th ou (⟨1, s.gr + 1, s.nx, dd⟩ : Sst) (⟨0, s.gr + 1, s.nx, dd⟩ : Sst) w8 bF W := hC'
            clear hC'
            simp only [puts] at hF
            subst hF
            have hto := arr_off_run (P := Try.prog) (T := 34) Try.underlying34 size1 (by omega) g6 0
            go_wp2_with (fail)
            exact ⟨rfl, rfl, (Below.refl _ _), rfl⟩
          · intro bF uF W hC' hU aF hF
            have hC : SC v1.heap.size gs init th ou (⟨1, s.gr + 1, s.nx, dd⟩ : Sst) (⟨0, s.gr + 1, s.nx, dd⟩ : Sst) w8 bF W := hC'
            clear hC'
            have h68 : (Det (.slice (some ⟨g6, 0, none⟩) 32 32)) (uF 1) W := hU.1
            clear hU
            simp only [puts, Act.put, List.setIfInBounds_toArray, List.set_cons_zero, List.set_cons_succ] at hF
            generalize uF 1 = x68 at h68 hF
            obtain rfl : x68 = (.slice (some ⟨g6, 0, none⟩) 32 32) := h68
            subst hF
            go_wp2_with (fail)
            exact ⟨rfl, rfl, (Below.refl _ _), rfl⟩
          · intro bF uF W hC' hU aF hF
            have hC : SC v1.heap.size gs init th ou (⟨1, s.gr + 1, s.nx, dd⟩ : Sst) (⟨0, s.gr + 1, s.nx, dd⟩ : Sst) w8 bF W := hC'
            clear hC'
            simp only [puts] at hF
            subst hF
            go_wp2_with (((with_reducible show wpList _ _ _ (Oper.mk (some 70) (Op.load _ _) _ _ _ _ :: _) _ _); refine wpList_load_whole (by rfl) 34 (.tmp 9) rfl w4.heap.size rfl (arr8 dd) agg44 (by rw [size_arr8]; exact HDL.out) _ (hC.blk b98 HN9) ?_))
            exact ⟨rfl, rfl, (Below.refl _ _), rfl⟩
          · intro uF W hC' hU aF hF
            have hC : SC v1.heap.size gs init th ou (⟨1, s.gr + 1, s.nx, dd⟩ : Sst) (⟨0, s.gr + 1, s.nx, dd⟩ : Sst) w8 false W := hC'
            clear hC'
            have h67 : (Det (.pointer (some ⟨gs, 0, none⟩))) (uF 0) W := hU.1
            have h69 : (Det (.agg #[.int .i64 3, .int .i64 0, .int .i64 0, .slice (some ⟨g6, 0, none⟩) 32 32])) (uF 2) W := hU.2.1
            have h70 : (Det (.agg (arr8 dd))) (uF 3) W := hU.2.2.1
            clear hU
            simp only [puts, Act.put, List.setIfInBounds_toArray, List.set_cons_zero, List.set_cons_succ] at hF
            generalize uF 0 = x67 at h67 hF
            generalize uF 2 = x69 at h69 hF
            generalize uF 3 = x70 at h70 hF
            obtain rfl : x67 = (.pointer (some ⟨gs, 0, none⟩)) := h67
            obtain rfl : x69 = (.agg #[.int .i64 3, .int .i64 0, .int .i64 0, .slice (some ⟨g6, 0, none⟩) 32 32]) := h69
            obtain rfl : x70 = (.agg (arr8 dd)) := h70
            subst hF
            go_wp2_with ((go_at_call 14; refine (handle_c (s := (⟨1, s.gr + 1, s.nx, dd⟩ : Sst)) hC.se0 3 0 0 HDL.out hC.bw (by show s.gr + 1 ≤ 1000000; have := HGR.out; omega) (show 0 ≤ s.nx from HNX.out.1) (show s.nx ≤ 1000000 by have := HNX.out; omega) (by have := HTL.out; omega) (by have := HOL.out; omega) (sum_sl (hC.blk b68 HN6) HEL.out) (Nat.le_refl _) (fun _ b off e => by cases e; exact HN6)).mono ?_; rintro e W1 hh; rw [HH2.out] at hh; obtain ⟨sv, rfl, hv, hh⟩ := hh))
            exact ⟨rfl, rfl, (hC.call2 hh), StepV.base_le hv hC.size⟩
        intro uF W9 hC' hU aF hF
        have hCW9 : SC v1.heap.size gs init th ou (⟨1, s.gr + 1, s.nx, dd⟩ : Sst) (⟨0, s.gr + 1, s.nx, dd⟩ : Sst) w8 true W9 := hC'
        clear hC'
        clear hU
        simp only [List.take_succ_cons, List.take_zero, puts, Act.put, List.setIfInBounds_toArray, List.set_cons_zero, List.set_cons_succ] at hF
        generalize uF 0 = x67 at hF
        generalize uF 1 = x68 at hF
        generalize uF 2 = x69 at hF
        generalize uF 3 = x70 at hF
        generalize uF 4 = x71 at hF
        subst hF
        simp only [List.drop_succ_cons, List.drop_zero]
        refine wpListIn_of free_wide (fun ⟨_, _, h⟩ => h) rfl ?_
        refine wpList_nil ?_
        dsimp only [Exit.then]
        have HE9 := Lib.hid hCW9.se1
        have b69 := hCW9.blk b68 HN6
        have bc9 := hCW9.blk bc8 HGN
        have hz9 := hCW9.size
        have HW9 := Lib.hid (HW8.out.trans (hCW9.bel.mono (by have := HW8.out.size; omega)))
        clear b68 bc8 b98 HE8 HW8
        go_wp2_with (first
          | (go_at_call 15; refine (state_c HE9.out).mono ?_; rintro e w9 ⟨rfl, rfl⟩))
        exact ⟨⟨i + 1, (⟨0, s.gr + 1, s.nx, dd⟩ : Sst), el, by omega, by go_num, by show s.gr + 1 = i + 1; rw [HGR.out], HNX.out, HEL.out, HE9.out, b69, bc9, HW9.out⟩, by simp [intOf]; omega⟩
    · obtain rfl : i = n1 := by omega
      have hil : ¬ (i : Int) < (i : Int) := by omega
      have HW := Lib.hid hw
      clear hse hw hel hnx hgr hb6 hbc
      go_wp2_with fail
      go_ret
      exact ⟨rfl, HW.out⟩
end Go.Proofs.Ytiadfbcdopfibaa.loginHello

