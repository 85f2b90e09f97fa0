/-
  login: mutual, what LoginAnswers says (printed by wip/gen_login8.py).
-/
import Derived.Test.YtiadfbcdopfibaaLoginG
namespace Go.Proofs.Ytiadfbcdopfibaa
open Go.RowKit
set_option linter.unusedVariables false
set_option linter.unusedSimpArgs false
set_option maxRecDepth 100000

theorem wrap_u64_nn (x : Int) : 0 ≤ IntKind.u64.wrap x := by rw [wrap_u64]; omega
theorem buildOp (d : Int) (w : World) : (Instr.build 38 #[(1, .int .i64 d)]).run Try.prog w = .ok (.agg #[.int .i64 0, .int .i64 0, .int .i64 0, .slice none 0 0, .int .i64 d, .bool false]) w := by kernel_rfl
theorem hnd_no {init : Int} {th ou : List UInt8} {s : Sst} {ds dr : List UInt8} (h : ¬ (16 ≤ ds.length ∧ ds.length ≤ 64)) : hnd init th ou s 1 init ds dr = (s, Out.rej 12) := by
  rw [hnd, if_pos rfl, if_neg (fun e => h e.2)]
theorem hnd_yes {init : Int} {th ou : List UInt8} {s : Sst} {ds dr : List UInt8} (h : 16 ≤ ds.length ∧ ds.length ≤ 64) (k : Int) (hk : (((s.gr + 1) % 256 : Nat) : Int) = k) : hnd init th ou s 1 init ds dr = (⟨1, s.gr + 1, s.nx, dr⟩, ⟨true, 2, k, 0, dr ++ ansOf k ou ds, true, false⟩) := by
  rw [hnd, if_pos rfl, if_pos ⟨rfl, h⟩, hk]
set_option maxHeartbeats 4000000 in
theorem mutual_c {w : World} (tn init d0 times : Int) {At Ao A : Option Addr} {nt ct no co m c : Nat} {th ou ds : List UInt8} (ht : SlB w w.heap.size At nt ct th) (ho : SlB w w.heap.size Ao no co ou) (hd : SlB w w.heap.size A m c ds) (hnt : nt ≤ 140737488351232) (hno : no ≤ 140737488351232) (hm : m ≤ 140737488351232) :
    Calls Try.prog 10 #[.agg #[.int .i64 tn, .int .i64 init, .slice At nt ct, .slice Ao no co], .slice A m c, .int .i64 d0, .int .i64 times] w fun e w' => e = .returned (.bool true) ∧ Below w.heap.size w w' := by
  have hthl : th.length = nt := by have := ht.1; simpa using this
  have houl : ou.length = no := by have := ho.1; simpa using this
  have hdsl : ds.length = m := by have := hd.1; simpa using this
  obtain ⟨gc, hgc⟩ : ∃ g, g = w.heap.size := ⟨_, rfl⟩
  obtain ⟨v, hv⟩ : ∃ v, v = w.alloc (.cells #[.int .i64 tn, .int .i64 init, .slice At nt ct, .slice Ao no co] 24) := ⟨_, rfl⟩
  have b1 : Blk v gc 24 #[.int .i64 tn, .int .i64 init, .slice At nt ct, .slice Ao no co] := by rw [hv, hgc]; exact Blk.new _ _ _
  have hbv : Below w.heap.size w v := by rw [hv]; exact below_alloc _ _
  have hz1 : v.heap.size = w.heap.size + 1 := by rw [hv, World.size_alloc]
  have hz := hbv.size
  have HZ1 := Lib.hid hz1
  have HV := Lib.hid hv
  have HB1 := Lib.hid b1
  have HT := Lib.hid ht
  have HO := Lib.hid ho
  have HD := Lib.hid hd
  have HTL := Lib.hid hthl
  have HOL := Lib.hid houl
  have HDS := Lib.hid hdsl
  have HGC := Lib.hid hgc
  have hfar0 : 0 < m → ∀ b off, A = some ⟨b, off, none⟩ → b < w.heap.size := fun h b off e => by
    obtain ⟨b', off', e', hl, _⟩ := hd.2.2.2 (by have := hd.2.1; omega)
    rw [e] at e'
    cases e'; exact hl
  have HFAR := Lib.hid hfar0
  clear hv b1 ht ho hd hthl houl hdsl hz1 hgc hfar0
  obtain ⟨u, hu⟩ : ∃ u : Nat, IntKind.u64.wrap times = (u : Int) := ⟨(IntKind.u64.wrap times).toNat, by rw [Int.toNat_of_nonneg (wrap_u64_nn _)]⟩
  obtain ⟨kk, hkk⟩ : ∃ kk : Nat, kk = u % 9 := ⟨_, rfl⟩
  obtain ⟨n, hnn⟩ : ∃ n : Nat, n = 1 + kk := ⟨_, rfl⟩
  have hn1 : 1 ≤ n := by omega
  have hn9 : n ≤ 9 := by omega
  have htm : ((u : Int)).tmod 9 = (kk : Int) := by rw [Int.tmod_eq_emod_of_nonneg (by omega)]; omega
  have hmd : (u : Int) % 9 = (kk : Int) := by omega
  have hMi : 1 + (kk : Int) = (n : Int) := by omega
  have hu8 : (kk : Int) < 9 := by omega
  have hu0 : (0 : Int) ≤ (kk : Int) := by omega
  clear hkk hnn
  have hBO := buildOp d0
  by_cases hbig : (2000 : Int) < (no : Int) + (nt : Int) + (m : Int)
  · go_enter Try.func10, Try.ntmps10
    go_wp2_with (go_at_call 11; rw [← HV.out]; refine (alive_c v).mono ?_; rintro e v1 ⟨rfl, hb1⟩; have b11 := HB1.out.below hb1 HB1.out.lt; have d2 : v1.cell? ⟨w.heap.size, 2, none⟩ = some (.slice At nt ct) := (by rw [← HGC.out, b11.cell]; rfl); have d3 : v1.cell? ⟨w.heap.size, 3, none⟩ = some (.slice Ao no co) := (by rw [← HGC.out, b11.cell]; rfl))
    go_ret
    exact ⟨rfl, hbv.trans (hb1.mono hz)⟩
  have hsum : no + nt + m ≤ 2000 := by omega
  go_enter Try.func10, Try.ntmps10
  go_wp2_with (first
    | (go_at_call 11; rw [← HV.out]; refine (alive_c v).mono ?_; rintro e v1 ⟨rfl, hb1⟩; have b11 := HB1.out.below hb1 HB1.out.lt; have hz11 := hb1.size; have HWV1 := Lib.hid (hbv.trans (hb1.mono hz)); have d2 : v1.cell? ⟨w.heap.size, 2, none⟩ = some (.slice At nt ct) := (by rw [← HGC.out, b11.cell]; rfl); have d3 : v1.cell? ⟨w.heap.size, 3, none⟩ = some (.slice Ao no co) := (by rw [← HGC.out, b11.cell]; rfl))
    | ((with_reducible show wpList _ _ _ (Oper.mk (some 28) (Op.load 24 (.tmp 4)) _ _ _ _ :: _) _ _); refine wpList_load_whole rfl 24 (.tmp 4) rfl gc (by rw [HGC.out]; rfl) #[.int .i64 tn, .int .i64 init, .slice At nt ct, .slice Ao no co] aggSec rfl _ b11 ?_)
    | (go_at_call 12; refine (new_c (HT.out.below HWV1.out) (HO.out.below HWV1.out) HWV1.out.size (by omega) (by omega)).mono ?_; rintro e v2 ⟨gs, rfl, hse2, hb2⟩; have hz2 := hb2.size; have hgs2 := hse2.hb; have hgl2 := hse2.lt; have HE2 := Lib.hid hse2; have b12 := b11.below hb2 b11.lt; clear hse2)
    | (go_at_call 13; refine (draw_c _ _ _ d0 _ _ _ _ v2).mono ?_; rintro e v3 ⟨rfl, hb3⟩; have hz3 := hb3.size; obtain ⟨dd, hdd⟩ : ∃ d : List UInt8, d = drawOf d0 := ⟨_, rfl⟩; have HDL := Lib.hid (show dd.length = 32 by rw [hdd]; exact len_drawOf d0); rw [← hdd]; clear hdd; have b13 := b12.below hb3 b12.lt; have hse3 := HE2.out.below hb3; have HE3 := Lib.hid hse3; clear hse3; have bs4 := Blk.new v3 34 (arr8 (z8' 32)); have hbs4 := below_alloc v3 (.cells (arr8 (z8' 32)) 34))
    | ((with_reducible show wpList _ _ _ (Oper.mk (some 10) (Op.alloc _) _ _ _ _ :: _) _ _); refine wpList_alloc_agg rfl 34 rfl (arr8 (z8' 32)) zero44 ?_)
    | ((with_reducible show wpList _ _ _ (Oper.mk none (Op.store 34 (.tmp 10) _) _ _ _ _ :: _) _ _); refine wpList_store8 rfl 34 (.tmp 10) (.tmp 37) rfl v3.heap.size rfl dd rfl agg44 HDL.out _ _ bs4 (by rw [size_arr8, len_z8']) ?_; intro v4 b4 q4 s4; have hb4 := hbs4.grown q4 hbs4.size (fun k hk => by cases hk; exact Nat.le_refl _)))
  have hbs4z := hbs4.size
  have hz4 := hb4.size
  have hse4 := HE3.out.below hb4
  have b14 := b13.below hb4 b13.lt
  have HW4 := Lib.hid ((((HWV1.out.trans (hb2.mono (by omega))).trans (hb3.mono (by omega))).trans (hb4.mono (by omega))) : Below w.heap.size w v4)
  have HG10 : v3.heap.size ≠ gs := by omega
  have HGN : gc ≠ gs := by have := HGC.out; have := HZ1.out; omega
  have hlt4 := b4.lt
  have HB14 := Lib.hid b14
  have HBS := Lib.hid b4
  have HE4 := Lib.hid hse4
  have hbase : v1.heap.size ≤ v4.heap.size := by omega
  have hgw : w.heap.size ≤ gs := by omega
  clear b11 b12 b13 b14 hse4 HE2 HE3 d2 d3 bs4 hbs4 q4 s4 HB1 b4
  go_loopw [11] (fun v11 wr => ∃ (i : Nat) (s : Sst), i ≤ n ∧ v11 = .int .i64 ((i : Int) + 1) ∧ s.gr = i ∧ s.nx = 0 ∧ s.st = (if i = 0 then 0 else 1) ∧ (i = 0 ∨ (16 ≤ m ∧ m ≤ 64)) ∧ Se wr v1.heap.size gs init th ou s.st (s.gr : Int) s.ch s.nx ∧ Below w.heap.size w wr ∧ Fr [gs] v4 wr) (fun v11 _ => n + 1 - (intOf v11).toNat)
  case atStart => exact ⟨0, ⟨0, 0, 0, z8' 32⟩, by omega, rfl, rfl, rfl, rfl, .inl rfl, HE4.out, HW4.out, Fr.below (Below.refl _ _)⟩
  case round =>
    obtain ⟨i, s, hi, rfl, hgr, hnx, hst, hok, hse, hw, hf⟩ := hrel
    have hzw := hw.size
    have hzf := hf.1
    have hi0 : (0 : Int) ≤ (i : Int) := by omega
    by_cases hlt : i < n
    · have hil : (i : Int) + 1 ≤ (n : Int) := by omega
      have hi9 : (i : Int) ≤ 9 := by omega
      have HCC := Lib.hid (hf.blk HB14.out (by simpa using HGN))
      have HSS := Lib.hid (hf.blk HBS.out (by simpa using HG10))
      have HE := Lib.hid hse
      have HW := Lib.hid hw
      have HF := Lib.hid hf
      have HDW := Lib.hid ((HD.out.below hw).more hzw)
      have e1 : wr.cell? ⟨w.heap.size, 1, none⟩ = some (.int .i64 init) := by rw [← HGC.out, HCC.out.cell]; rfl
      have hB3 := buildFr1
      have HNX := Lib.hid hnx
      have HST := Lib.hid hst
      have HGR := Lib.hid hgr
      have HFARW := Lib.hid (show 0 < m → ∀ b off, A = some ⟨b, off, none⟩ → b ≠ gs from fun h b off e => by have := HFAR.out h b off e; omega)
      clear hse hw hf hnx hst hgr
      by_cases hm16 : (m : Int) < 16
      · have hbad : ¬ (16 ≤ ds.length ∧ ds.length ≤ 64) := by have := HDS.out; omega
        have HBAD := Lib.hid hbad
        obtain rfl : i = 0 := by omega
        clear hbad hok
        go_wp2_with (first
          | ((with_reducible show wpList _ _ _ (Oper.mk (some 48) (Op.load 34 (.tmp 10)) _ _ _ _ :: _) _ _); refine wpList_load_whole rfl 34 (.tmp 10) rfl v3.heap.size rfl (arr8 dd) agg44 (by rw [size_arr8]; exact HDL.out) _ HSS.out ?_)
          | (go_at_call 14; refine (handle_c (s := s) HE.out 1 init 0 HDL.out (by omega) (by have := HGR.out; omega) (by have := HNX.out; omega) (by have := HNX.out; omega) (by have := HTL.out; omega) (by have := HOL.out; omega) HDW.out (Nat.le_refl _) HFARW.out).mono ?_; rintro e w5 hh; rw [hnd_no HBAD.out] at hh; obtain ⟨sv, he, hv, hse5, hb5, hf5⟩ := hh; rcases hv with ⟨_, g, A', c', hsv, zg, hbg, og⟩ | ⟨hq, _⟩; (rotate_left; exact Bool.noConfusion hq); have hsv' : sv = .agg #[.slice (some ⟨g, 0, none⟩) 1 1, .bool false, .bool false] := hsv; subst hsv'; subst he; have hbg' : Blk w5 g 36 #[.int .i64 7, .int .i64 0, .int .i64 12, .slice A' 0 c'] := hbg; clear hsv hbg og; obtain ⟨u5, hu5⟩ : ∃ u, u = w5.alloc (.cells #[.slice (some ⟨g, 0, none⟩) 1 1, .bool false, .bool false] 42) := ⟨_, rfl⟩; have HU5 := Lib.hid hu5; have hbu5 : Below w5.heap.size w5 u5 := (by rw [hu5]; exact below_alloc _ _); have b5S : Blk u5 w5.heap.size 42 #[.slice (some ⟨g, 0, none⟩) 1 1, .bool false, .bool false] := (by rw [hu5]; exact Blk.new _ _ _); have b5G := hbg'.below hbu5 hbg'.lt; have hse5' := hse5.below hbu5; obtain ⟨u6, hu6⟩ : ∃ u, u = u5.alloc (.cells #[.int .i64 7, .int .i64 0, .int .i64 12, .slice A' 0 c'] 36) := ⟨_, rfl⟩; have HU6 := Lib.hid hu6; have hbu6 : Below u5.heap.size u5 u6 := (by rw [hu6]; exact below_alloc _ _); have b6S := b5S.below hbu6 b5S.lt; have HE6 := Lib.hid (hse5'.below hbu6); have e61 : u6.cell? ⟨w5.heap.size, 1, none⟩ = some (.bool false) := (by rw [b6S.cell]; rfl); rw [hu6] at e61; have HB5G := Lib.hid b5G; have HBEL := Lib.hid ((((HW.out.trans (hb5.mono (by omega))).trans (hbu5.mono (by have := hf5.1; omega))).trans (hbu6.mono (by have := hf5.1; have := hbu5.size; omega))) : Below w.heap.size w u6); clear hu5 hu6 b5S b6S b5G hse5' hse5 hbg' hb5 hf5)
          | ((with_reducible show wpList _ _ _ (Oper.mk (some 57) (Op.load 36 (.tmp 56)) _ _ _ _ :: _) _ _); rw [← HU5.out]; refine wpList_load_whole rfl 36 (.tmp 56) rfl g rfl #[.int .i64 7, .int .i64 0, .int .i64 12, .slice A' 0 c'] aggFr rfl _ HB5G.out ?_)
          | (go_at_call 15; rw [← HU6.out]; refine (state_c HE6.out).mono ?_; rintro e w7 ⟨rfl, rfl⟩; rw [show s.st = 0 from HST.out]))
        go_ret
        exact ⟨rfl, HBEL.out⟩
      · by_cases hm64 : (64 : Int) < (m : Int)
        · have hbad : ¬ (16 ≤ ds.length ∧ ds.length ≤ 64) := by have := HDS.out; omega
          have HBAD := Lib.hid hbad
          obtain rfl : i = 0 := by omega
          clear hbad hok
          go_wp2_with (first
            | ((with_reducible show wpList _ _ _ (Oper.mk (some 48) (Op.load 34 (.tmp 10)) _ _ _ _ :: _) _ _); refine wpList_load_whole rfl 34 (.tmp 10) rfl v3.heap.size rfl (arr8 dd) agg44 (by rw [size_arr8]; exact HDL.out) _ HSS.out ?_)
            | (go_at_call 14; refine (handle_c (s := s) HE.out 1 init 0 HDL.out (by omega) (by have := HGR.out; omega) (by have := HNX.out; omega) (by have := HNX.out; omega) (by have := HTL.out; omega) (by have := HOL.out; omega) HDW.out (Nat.le_refl _) HFARW.out).mono ?_; rintro e w5 hh; rw [hnd_no HBAD.out] at hh; obtain ⟨sv, he, hv, hse5, hb5, hf5⟩ := hh; rcases hv with ⟨_, g, A', c', hsv, zg, hbg, og⟩ | ⟨hq, _⟩; (rotate_left; exact Bool.noConfusion hq); have hsv' : sv = .agg #[.slice (some ⟨g, 0, none⟩) 1 1, .bool false, .bool false] := hsv; subst hsv'; subst he; have hbg' : Blk w5 g 36 #[.int .i64 7, .int .i64 0, .int .i64 12, .slice A' 0 c'] := hbg; clear hsv hbg og; obtain ⟨u5, hu5⟩ : ∃ u, u = w5.alloc (.cells #[.slice (some ⟨g, 0, none⟩) 1 1, .bool false, .bool false] 42) := ⟨_, rfl⟩; have HU5 := Lib.hid hu5; have hbu5 : Below w5.heap.size w5 u5 := (by rw [hu5]; exact below_alloc _ _); have b5S : Blk u5 w5.heap.size 42 #[.slice (some ⟨g, 0, none⟩) 1 1, .bool false, .bool false] := (by rw [hu5]; exact Blk.new _ _ _); have b5G := hbg'.below hbu5 hbg'.lt; have hse5' := hse5.below hbu5; obtain ⟨u6, hu6⟩ : ∃ u, u = u5.alloc (.cells #[.int .i64 7, .int .i64 0, .int .i64 12, .slice A' 0 c'] 36) := ⟨_, rfl⟩; have HU6 := Lib.hid hu6; have hbu6 : Below u5.heap.size u5 u6 := (by rw [hu6]; exact below_alloc _ _); have b6S := b5S.below hbu6 b5S.lt; have HE6 := Lib.hid (hse5'.below hbu6); have e61 : u6.cell? ⟨w5.heap.size, 1, none⟩ = some (.bool false) := (by rw [b6S.cell]; rfl); rw [hu6] at e61; have HB5G := Lib.hid b5G; have HBEL := Lib.hid ((((HW.out.trans (hb5.mono (by omega))).trans (hbu5.mono (by have := hf5.1; omega))).trans (hbu6.mono (by have := hf5.1; have := hbu5.size; omega))) : Below w.heap.size w u6); clear hu5 hu6 b5S b6S b5G hse5' hse5 hbg' hb5 hf5)
            | ((with_reducible show wpList _ _ _ (Oper.mk (some 57) (Op.load 36 (.tmp 56)) _ _ _ _ :: _) _ _); rw [← HU5.out]; refine wpList_load_whole rfl 36 (.tmp 56) rfl g rfl #[.int .i64 7, .int .i64 0, .int .i64 12, .slice A' 0 c'] aggFr rfl _ HB5G.out ?_)
            | (go_at_call 15; rw [← HU6.out]; refine (state_c HE6.out).mono ?_; rintro e w7 ⟨rfl, rfl⟩; rw [show s.st = 0 from HST.out]))
          go_ret
          exact ⟨rfl, HBEL.out⟩
        · have hgood : 16 ≤ ds.length ∧ ds.length ≤ 64 := by have := HDS.out; omega
          have HGOOD := Lib.hid hgood
          obtain ⟨own, hown⟩ : ∃ o, o = ansOf ((i : Int) + 1) ou ds := ⟨_, rfl⟩
          have HOWL := Lib.hid (show own.length = 32 by rw [hown]; exact len_ansOf _ _ _)
          have HOWN := Lib.hid hown
          clear hgood hok hown
          go_wp2_with (first
            | ((with_reducible show wpList _ _ _ (Oper.mk (some 48) (Op.load 34 (.tmp 10)) _ _ _ _ :: _) _ _); refine wpList_load_whole rfl 34 (.tmp 10) rfl v3.heap.size rfl (arr8 dd) agg44 (by rw [size_arr8]; exact HDL.out) _ HSS.out ?_)
            | (go_at_call 14; refine (handle_c (s := s) HE.out 1 init 0 HDL.out (by omega) (by have := HGR.out; omega) (by have := HNX.out; omega) (by have := HNX.out; omega) (by have := HTL.out; omega) (by have := HOL.out; omega) HDW.out (Nat.le_refl _) HFARW.out).mono ?_; rintro e w5 hh; rw [hnd_yes HGOOD.out ((i : Int) + 1) (by rw [HGR.out]; omega), ← HOWN.out] at hh; obtain ⟨sv, he, hv, hse5, hb5, hf5⟩ := hh; rcases hv with ⟨_, g, A', c', hsv, zg, hbg, og⟩ | ⟨hq, _⟩; (rotate_left; exact Bool.noConfusion hq); have hsv' : sv = .agg #[.slice (some ⟨g, 0, none⟩) 1 1, .bool true, .bool false] := hsv; subst hsv'; subst he; have hlen64 : (dd ++ own).length = 64 := (by rw [List.length_append, HDL.out, HOWL.out]); have og' : OwB w5 wr.heap.size A' 64 c' (dd ++ own) := hlen64 ▸ og; have hbg' : Blk w5 g 36 #[.int .i64 2, .int .i64 ((i : Int) + 1), .int .i64 0, .slice A' 64 c'] := hlen64 ▸ hbg; obtain ⟨ga, cura, rfl, hga, hba, hsa, hta⟩ := og'.open_ (by have := og'.le; omega); have hcc := og'.le; have hcx := og'.cap; obtain ⟨u5, hu5⟩ : ∃ u, u = w5.alloc (.cells #[.slice (some ⟨g, 0, none⟩) 1 1, .bool true, .bool false] 42) := ⟨_, rfl⟩; have HU5 := Lib.hid hu5; have hbu5 : Below w5.heap.size w5 u5 := (by rw [hu5]; exact below_alloc _ _); have b5S : Blk u5 w5.heap.size 42 #[.slice (some ⟨g, 0, none⟩) 1 1, .bool true, .bool false] := (by rw [hu5]; exact Blk.new _ _ _); have b5G := hbg'.below hbu5 hbg'.lt; have hse5' := hse5.below hbu5; have og5 := og'.below hbu5; obtain ⟨u6, hu6⟩ : ∃ u, u = u5.alloc (.cells #[.int .i64 2, .int .i64 ((i : Int) + 1), .int .i64 0, .slice (some ⟨ga, 0, none⟩) 64 c'] 36) := ⟨_, rfl⟩; have HU6 := Lib.hid hu6; have hbu6 : Below u5.heap.size u5 u6 := (by rw [hu6]; exact below_alloc _ _); have b6S := b5S.below hbu6 b5S.lt; have HB6S := Lib.hid b6S; have HB6F := Lib.hid (show Blk u6 u5.heap.size 36 #[.int .i64 2, .int .i64 ((i : Int) + 1), .int .i64 0, .slice (some ⟨ga, 0, none⟩) 64 c'] by rw [hu6]; exact Blk.new _ _ _); have HE6 := Lib.hid (hse5'.below hbu6); have HO6 := Lib.hid (og5.below hbu6); have HF6 := Lib.hid ((hf5.trans (Fr.below hbu5)).trans (Fr.below hbu6)); have HB5G := Lib.hid b5G; have HBEL := Lib.hid ((((HW.out.trans (hb5.mono (by omega))).trans (hbu5.mono (by have := hf5.1; omega))).trans (hbu6.mono (by have := hf5.1; have := hbu5.size; omega))) : Below w.heap.size w u6); have e3 : u6.cell? ⟨w.heap.size, 3, none⟩ = some (.slice Ao no co) := (by rw [← HGC.out, (HF6.out.blk HCC.out (by simpa using HGN)).cell]; rfl); rw [hu6] at e3; have hzu5 := hbu5.size; have hzu6 := hbu6.size; have hzf5 := hf5.1; clear hu5 hu6 b5S b6S b5G hse5' hse5 hbg' hbg hb5 hf5 hta hba og' og og5 hsv hlen64 zg)
            | ((with_reducible show wpList _ _ _ (Oper.mk (some 57) (Op.load 36 (.tmp 56)) _ _ _ _ :: _) _ _); rw [← HU5.out]; refine wpList_load_whole rfl 36 (.tmp 56) rfl g rfl #[.int .i64 2, .int .i64 ((i : Int) + 1), .int .i64 0, .slice (some ⟨ga, 0, none⟩) 64 c'] aggFr rfl _ HB5G.out ?_)
            | (go_at_call 17; rw [← HU6.out]; refine (refanswer_c ((i : Int) + 1) ((HO.out.below HBEL.out).more HBEL.out.size) ((HD.out.below HBEL.out).more HBEL.out.size) (Nat.le_refl _) (by omega) (by omega)).mono ?_; rintro e w7 ⟨rfl, hb7⟩; rw [← HOWN.out]; have bs7 := Blk.new w7 34 (arr8 (z8' 32)); have hbs7 := below_alloc w7 (.cells (arr8 (z8' 32)) 34))
            | ((with_reducible show wpList _ _ _ (Oper.mk (some 14) (Op.alloc _) _ _ _ _ :: _) _ _); refine wpList_alloc_agg rfl 34 rfl (arr8 (z8' 32)) zero44 ?_)
            | ((with_reducible show wpList _ _ _ (Oper.mk none (Op.store 34 (.tmp 14) _) _ _ _ _ :: _) _ _); refine wpList_store8 rfl 34 (.tmp 14) (.tmp 88) rfl w7.heap.size rfl own rfl agg44 HOWL.out _ _ bs7 (by rw [size_arr8, len_z8']) ?_; intro v8 b8 q8 s8; have hb8 := hbs7.grown q8 hbs7.size (fun k hk => by cases hk; exact Nat.le_refl _)))
          have hb68 : Below u6.heap.size u6 v8 := hb7.trans (hb8.mono hb7.size)
          have hz68 := hb68.size
          have HS8 := Lib.hid (HB6S.out.below hb68 HB6S.out.lt)
          have HF8 := Lib.hid (HB6F.out.below hb68 HB6F.out.lt)
          have HO8 := HO6.out.below hb68
          have HQ1 := Lib.hid (show SlB v8 v8.heap.size (some ⟨ga, 0, none⟩) 32 c' dd by
            have := (HO8.sl).trim (k := 32) (by omega)
            rwa [List.take_left' HDL.out] at this)
          have HQ2 := Lib.hid (show SlB v8 v8.heap.size (some ⟨ga, 32, none⟩) 32 (c' - 32) own by
            have := (HO8.sl).tail (lo := 32) (by omega)
            rw [if_neg (by omega), List.drop_left' HDL.out] at this
            simpa [Addr.add] using this)
          have HD8 := Lib.hid ((HF6.out.blk HSS.out (by simpa using HG10)).below hb68 (by omega))
          have HA8 := Lib.hid b8
          have HE8 := Lib.hid (HE6.out.below hb68)
          have HBL8 := Lib.hid (HBEL.out.trans (hb68.mono HBEL.out.size))
          have HF89 := Lib.hid (HF.out.trans (HF6.out.trans (Fr.below hb68)))
          clear HO8 b8 e3 s8 q8 bs7 hbs7 hb68 hb7 hb8
          refine wp_region_rel (fun W W' => Below W.heap.size W W') (fun W => Below v8.heap.size v8 W)
            [Det (.pointer (some ⟨w5.heap.size, 1, none⟩)), Det (.bool true), Det (.bool false), Det (.bool false), Det (.pointer (some ⟨u5.heap.size, 0, none⟩)), Det (.int .i64 2), Det (.bool false), Det (.bool false), Det (.bool false), Det (.pointer (some ⟨u5.heap.size, 1, none⟩)), Det (.int .i64 ((i : Int) + 1)), Det (.int .i64 ((i : Int) + 1)), Det (.bool false), Det (.bool false), Det (.bool false), Det (.pointer (some ⟨u5.heap.size, 3, none⟩)), Det (.slice (some ⟨ga, 0, none⟩) 64 c'), Det (.int .i64 64), Det (.bool false), Det (.bool false), Det (.bool false), Det (.pointer (some ⟨u5.heap.size, 3, none⟩)), Det (.slice (some ⟨ga, 0, none⟩) 64 c'), Det (.slice (some ⟨ga, 0, none⟩) 32 c'), Det (.string ⟨dd.toArray⟩), Det (.slice (some ⟨v3.heap.size, 0, none⟩) 32 32), Det (.string ⟨dd.toArray⟩), Det (.bool false), Det (.bool false), Det (.bool false), Det (.pointer (some ⟨u5.heap.size, 3, none⟩)), Det (.slice (some ⟨ga, 0, none⟩) 64 c'), Det (.slice (some ⟨ga, 32, none⟩) 32 (c' - 32)), Det (.string ⟨own.toArray⟩), Det (.slice (some ⟨w7.heap.size, 0, none⟩) 32 32), Det (.string ⟨own.toArray⟩), Det (.bool false), Det (.bool false), Det (.bool false), Det (.pointer (some ⟨gs, 0, none⟩)), Det (.int .i64 1), Det (.bool false), Det (.bool false)]
            [[], [(0, some 89)], [(1, some 90)], [(2, some 91)], [(3, some 92)], [(4, some 93), (3, some 92)], [(5, some 94), (3, some 92)], [(3, some 92), (6, some 95)], [(7, some 96)], [(8, some 97)], [(9, some 98), (8, some 97)], [(8, some 97)], [(10, some 99), (11, some 100), (8, some 97)], [(8, some 97), (12, some 101)], [(13, some 102)], [(14, some 103)], [(15, some 104), (14, some 103)], [(16, some 105), (14, some 103)], [(17, some 106), (14, some 103)], [(14, some 103), (18, some 107)], [(19, some 108)], [(20, some 109)], [(21, some 110), (20, some 109)], [(22, some 111), (20, some 109)], [(23, some 112), (20, some 109)], [(20, some 109)], [(25, some 114), (20, some 109)], [(24, some 113), (26, some 115), (20, some 109)], [(20, some 109), (27, some 116)], [(28, some 117)], [(29, some 118)], [(30, some 119), (29, some 118)], [(31, some 120), (29, some 118)], [(32, some 121), (29, some 118)], [(29, some 118)], [(34, some 123), (29, some 118)], [(33, some 122), (35, some 124), (29, some 118)], [(29, some 118), (36, some 125)], [(37, some 126)], [(38, some 127)], [(39, some 128), (38, some 127)], [(40, some 129), (38, some 127)], [(38, some 127), (41, some 130)]]
            [[], [0], [0, 1], [0, 1, 2], [0, 1, 2, 3], [0, 1, 2, 3, 4], [0, 1, 2, 3, 4, 5], [0, 1, 2, 3, 4, 5, 6], [0, 1, 2, 3, 4, 5, 6, 7], [0, 1, 2, 3, 4, 5, 6, 7, 8], [0, 1, 2, 3, 4, 5, 6, 7, 8, 9], [0, 1, 2, 3, 4, 5, 6, 7, 8], [0, 1, 2, 3, 4, 5, 6, 7, 8, 9, 10, 11], [0, 1, 2, 3, 4, 5, 6, 7, 8, 9, 10, 11, 12], [0, 1, 2, 3, 4, 5, 6, 7, 8, 9, 10, 11, 12, 13], [0, 1, 2, 3, 4, 5, 6, 7, 8, 9, 10, 11, 12, 13, 14], [0, 1, 2, 3, 4, 5, 6, 7, 8, 9, 10, 11, 12, 13, 14, 15], [0, 1, 2, 3, 4, 5, 6, 7, 8, 9, 10, 11, 12, 13, 14, 15, 16], [0, 1, 2, 3, 4, 5, 6, 7, 8, 9, 10, 11, 12, 13, 14, 15, 16, 17], [0, 1, 2, 3, 4, 5, 6, 7, 8, 9, 10, 11, 12, 13, 14, 15, 16, 17, 18], [0, 1, 2, 3, 4, 5, 6, 7, 8, 9, 10, 11, 12, 13, 14, 15, 16, 17, 18, 19], [0, 1, 2, 3, 4, 5, 6, 7, 8, 9, 10, 11, 12, 13, 14, 15, 16, 17, 18, 19, 20], [0, 1, 2, 3, 4, 5, 6, 7, 8, 9, 10, 11, 12, 13, 14, 15, 16, 17, 18, 19, 20, 21], [0, 1, 2, 3, 4, 5, 6, 7, 8, 9, 10, 11, 12, 13, 14, 15, 16, 17, 18, 19, 20, 21, 22], [0, 1, 2, 3, 4, 5, 6, 7, 8, 9, 10, 11, 12, 13, 14, 15, 16, 17, 18, 19, 20, 21, 22, 23], [0, 1, 2, 3, 4, 5, 6, 7, 8, 9, 10, 11, 12, 13, 14, 15, 16, 17, 18, 19, 20], [0, 1, 2, 3, 4, 5, 6, 7, 8, 9, 10, 11, 12, 13, 14, 15, 16, 17, 18, 19, 20, 25], [0, 1, 2, 3, 4, 5, 6, 7, 8, 9, 10, 11, 12, 13, 14, 15, 16, 17, 18, 19, 20, 21, 22, 23, 24, 25, 26], [0, 1, 2, 3, 4, 5, 6, 7, 8, 9, 10, 11, 12, 13, 14, 15, 16, 17, 18, 19, 20, 21, 22, 23, 24, 25, 26, 27], [0, 1, 2, 3, 4, 5, 6, 7, 8, 9, 10, 11, 12, 13, 14, 15, 16, 17, 18, 19, 20, 21, 22, 23, 24, 25, 26, 27, 28], [0, 1, 2, 3, 4, 5, 6, 7, 8, 9, 10, 11, 12, 13, 14, 15, 16, 17, 18, 19, 20, 21, 22, 23, 24, 25, 26, 27, 28, 29], [0, 1, 2, 3, 4, 5, 6, 7, 8, 9, 10, 11, 12, 13, 14, 15, 16, 17, 18, 19, 20, 21, 22, 23, 24, 25, 26, 27, 28, 29, 30], [0, 1, 2, 3, 4, 5, 6, 7, 8, 9, 10, 11, 12, 13, 14, 15, 16, 17, 18, 19, 20, 21, 22, 23, 24, 25, 26, 27, 28, 29, 30, 31], [0, 1, 2, 3, 4, 5, 6, 7, 8, 9, 10, 11, 12, 13, 14, 15, 16, 17, 18, 19, 20, 21, 22, 23, 24, 25, 26, 27, 28, 29, 30, 31, 32], [0, 1, 2, 3, 4, 5, 6, 7, 8, 9, 10, 11, 12, 13, 14, 15, 16, 17, 18, 19, 20, 21, 22, 23, 24, 25, 26, 27, 28, 29], [0, 1, 2, 3, 4, 5, 6, 7, 8, 9, 10, 11, 12, 13, 14, 15, 16, 17, 18, 19, 20, 21, 22, 23, 24, 25, 26, 27, 28, 29, 34], [0, 1, 2, 3, 4, 5, 6, 7, 8, 9, 10, 11, 12, 13, 14, 15, 16, 17, 18, 19, 20, 21, 22, 23, 24, 25, 26, 27, 28, 29, 30, 31, 32, 33, 34, 35], [0, 1, 2, 3, 4, 5, 6, 7, 8, 9, 10, 11, 12, 13, 14, 15, 16, 17, 18, 19, 20, 21, 22, 23, 24, 25, 26, 27, 28, 29, 30, 31, 32, 33, 34, 35, 36], [0, 1, 2, 3, 4, 5, 6, 7, 8, 9, 10, 11, 12, 13, 14, 15, 16, 17, 18, 19, 20, 21, 22, 23, 24, 25, 26, 27, 28, 29, 30, 31, 32, 33, 34, 35, 36, 37], [0, 1, 2, 3, 4, 5, 6, 7, 8, 9, 10, 11, 12, 13, 14, 15, 16, 17, 18, 19, 20, 21, 22, 23, 24, 25, 26, 27, 28, 29, 30, 31, 32, 33, 34, 35, 36, 37, 38], [0, 1, 2, 3, 4, 5, 6, 7, 8, 9, 10, 11, 12, 13, 14, 15, 16, 17, 18, 19, 20, 21, 22, 23, 24, 25, 26, 27, 28, 29, 30, 31, 32, 33, 34, 35, 36, 37, 38, 39], [0, 1, 2, 3, 4, 5, 6, 7, 8, 9, 10, 11, 12, 13, 14, 15, 16, 17, 18, 19, 20, 21, 22, 23, 24, 25, 26, 27, 28, 29, 30, 31, 32, 33, 34, 35, 36, 37, 38, 39, 40], [0, 1, 2, 3, 4, 5, 6, 7, 8, 9, 10, 11, 12, 13, 14, 15, 16, 17, 18, 19, 20, 21, 22, 23, 24, 25, 26, 27, 28, 29, 30, 31, 32, 33, 34, 35, 36, 37, 38, 39, 40, 41]]
            [(0, some 89), (1, some 90), (2, some 91), (3, some 92), (4, some 93), (5, some 94), (6, some 95), (7, some 96), (8, some 97), (9, some 98), (10, some 99), (11, some 100), (12, some 101), (13, some 102), (14, some 103), (15, some 104), (16, some 105), (17, some 106), (18, some 107), (19, some 108), (20, some 109), (21, some 110), (22, some 111), (23, some 112), (24, some 113), (25, some 114), (26, some 115), (27, some 116), (28, some 117), (29, some 118), (30, some 119), (31, some 120), (32, some 121), (33, some 122), (34, some 123), (35, some 124), (36, some 125), (37, some 126), (38, some 127), (39, some 128), (40, some 129), (41, some 130), (42, some 131)] (by kernel_rfl) (by kernel_rfl) (fun W W' h1 h2 => h1.trans (h2.mono h1.size)) ((Below.refl _ _).drew) ?_ ?_ ?_
          · exact (AllMono.cons Det.later (AllMono.cons Det.later (AllMono.cons Det.later (AllMono.cons Det.later (AllMono.cons Det.later (AllMono.cons Det.later (AllMono.cons Det.later (AllMono.cons Det.later (AllMono.cons Det.later (AllMono.cons Det.later (AllMono.cons Det.later (AllMono.cons Det.later (AllMono.cons Det.later (AllMono.cons Det.later (AllMono.cons Det.later (AllMono.cons Det.later (AllMono.cons Det.later (AllMono.cons Det.later (AllMono.cons Det.later (AllMono.cons Det.later (AllMono.cons Det.later (AllMono.cons Det.later (AllMono.cons Det.later (AllMono.cons Det.later (AllMono.cons Det.later (AllMono.cons Det.later (AllMono.cons Det.later (AllMono.cons Det.later (AllMono.cons Det.later (AllMono.cons Det.later (AllMono.cons Det.later (AllMono.cons Det.later (AllMono.cons Det.later (AllMono.cons Det.later (AllMono.cons Det.later (AllMono.cons Det.later (AllMono.cons Det.later (AllMono.cons Det.later (AllMono.cons Det.later (AllMono.cons Det.later (AllMono.cons Det.later (AllMono.cons Det.later (AllMono.cons Det.later AllMono.nil)))))))))))))))))))))))))))))))))))))))))))
          · refine AllOb.cons ?_ (AllOb.cons ?_ (AllOb.cons ?_ (AllOb.cons ?_ (AllOb.cons ?_ (AllOb.cons ?_ (AllOb.cons ?_ (AllOb.cons ?_ (AllOb.cons ?_ (AllOb.cons ?_ (AllOb.cons ?_ (AllOb.cons ?_ (AllOb.cons ?_ (AllOb.cons ?_ (AllOb.cons ?_ (AllOb.cons ?_ (AllOb.cons ?_ (AllOb.cons ?_ (AllOb.cons ?_ (AllOb.cons ?_ (AllOb.cons ?_ (AllOb.cons ?_ (AllOb.cons ?_ (AllOb.cons ?_ (AllOb.cons ?_ (AllOb.cons ?_ (AllOb.cons ?_ (AllOb.cons ?_ (AllOb.cons ?_ (AllOb.cons ?_ (AllOb.cons ?_ (AllOb.cons ?_ (AllOb.cons ?_ (AllOb.cons ?_ (AllOb.cons ?_ (AllOb.cons ?_ (AllOb.cons ?_ (AllOb.cons ?_ (AllOb.cons ?_ (AllOb.cons ?_ (AllOb.cons ?_ (AllOb.cons ?_ (AllOb.cons ?_ (AllOb.nil)))))))))))))))))))))))))))))))))))))))))))
            · intro uF W hC' hU aF hF
              have hC : Below v8.heap.size v8 W := hC'
              clear hC'
              simp only [puts] at hF
              subst hF
              go_wp2_with (fail)
              exact ⟨rfl, rfl, (Below.refl _ _), rfl⟩
            · intro uF W hC' hU aF hF
              have hC : Below v8.heap.size v8 W := hC'
              clear hC'
              have h89 : (Det (.pointer (some ⟨w5.heap.size, 1, none⟩))) (uF 0) W := hU.1
              clear hU
              simp only [puts, Act.put, List.setIfInBounds_toArray, List.set_cons_zero, List.set_cons_succ] at hF
              generalize uF 0 = x89 at h89 hF
              obtain rfl : x89 = (.pointer (some ⟨w5.heap.size, 1, none⟩)) := h89
              subst hF
              have d1 : W.cell? ⟨w5.heap.size, 1, none⟩ = some (.bool true) := by rw [(HS8.out.below hC HS8.out.lt).cell]; rfl
              go_wp2_with (fail)
              exact ⟨rfl, rfl, (Below.refl _ _), rfl⟩
            · intro uF W hC' hU aF hF
              have hC : Below v8.heap.size v8 W := hC'
              clear hC'
              have h90 : (Det (.bool true)) (uF 1) W := hU.1
              clear hU
              simp only [puts, Act.put, List.setIfInBounds_toArray, List.set_cons_zero, List.set_cons_succ] at hF
              generalize uF 1 = x90 at h90 hF
              obtain rfl : x90 = (.bool true) := h90
              subst hF
              go_wp2_with (fail)
              exact ⟨rfl, rfl, (Below.refl _ _), rfl⟩
            · intro uF W hC' hU aF hF
              have hC : Below v8.heap.size v8 W := hC'
              clear hC'
              have h91 : (Det (.bool false)) (uF 2) W := hU.1
              clear hU
              simp only [puts, Act.put, List.setIfInBounds_toArray, List.set_cons_zero, List.set_cons_succ] at hF
              generalize uF 2 = x91 at h91 hF
              obtain rfl : x91 = (.bool false) := h91
              subst hF
              go_wp2_with (fail)
              exact ⟨rfl, rfl, (Below.refl _ _), rfl⟩
            · intro uF W hC' hU aF hF
              have hC : Below v8.heap.size v8 W := hC'
              clear hC'
              have h92 : (Det (.bool false)) (uF 3) W := hU.1
              clear hU
              simp only [puts, Act.put, List.setIfInBounds_toArray, List.set_cons_zero, List.set_cons_succ] at hF
              generalize uF 3 = x92 at h92 hF
              obtain rfl : x92 = (.bool false) := h92
              subst hF
              go_wp2_with (fail)
              exact ⟨rfl, rfl, (Below.refl _ _), rfl⟩
            · intro uF W hC' hU aF hF
              have hC : Below v8.heap.size v8 W := hC'
              clear hC'
              have h93 : (Det (.pointer (some ⟨u5.heap.size, 0, none⟩))) (uF 4) W := hU.1
              have h92 : (Det (.bool false)) (uF 3) W := hU.2.1
              clear hU
              simp only [puts, Act.put, List.setIfInBounds_toArray, List.set_cons_zero, List.set_cons_succ] at hF
              generalize uF 4 = x93 at h93 hF
              generalize uF 3 = x92 at h92 hF
              obtain rfl : x93 = (.pointer (some ⟨u5.heap.size, 0, none⟩)) := h93
              obtain rfl : x92 = (.bool false) := h92
              subst hF
              have d1 : W.cell? ⟨u5.heap.size, 0, none⟩ = some (.int .i64 2) := by rw [(HF8.out.below hC HF8.out.lt).cell]; rfl
              go_wp2_with (fail)
              exact ⟨rfl, rfl, (Below.refl _ _), rfl⟩
            · intro uF W hC' hU aF hF
              have hC : Below v8.heap.size v8 W := hC'
              clear hC'
              have h94 : (Det (.int .i64 2)) (uF 5) W := hU.1
              have h92 : (Det (.bool false)) (uF 3) W := hU.2.1
              clear hU
              simp only [puts, Act.put, List.setIfInBounds_toArray, List.set_cons_zero, List.set_cons_succ] at hF
              generalize uF 5 = x94 at h94 hF
              generalize uF 3 = x92 at h92 hF
              obtain rfl : x94 = (.int .i64 2) := h94
              obtain rfl : x92 = (.bool false) := h92
              subst hF
              go_wp2_with (fail)
              exact ⟨rfl, rfl, (Below.refl _ _), rfl⟩
            · intro uF W hC' hU aF hF
              have hC : Below v8.heap.size v8 W := hC'
              clear hC'
              have h92 : (Det (.bool false)) (uF 3) W := hU.1
              have h95 : (Det (.bool false)) (uF 6) W := hU.2.1
              clear hU
              simp only [puts, Act.put, List.setIfInBounds_toArray, List.set_cons_zero, List.set_cons_succ] at hF
              generalize uF 3 = x92 at h92 hF
              generalize uF 6 = x95 at h95 hF
              obtain rfl : x92 = (.bool false) := h92
              obtain rfl : x95 = (.bool false) := h95
              subst hF
              go_wp2_with (fail)
              exact ⟨rfl, rfl, (Below.refl _ _), rfl⟩
            · intro uF W hC' hU aF hF
              have hC : Below v8.heap.size v8 W := hC'
              clear hC'
              have h96 : (Det (.bool false)) (uF 7) W := hU.1
              clear hU
              simp only [puts, Act.put, List.setIfInBounds_toArray, List.set_cons_zero, List.set_cons_succ] at hF
              generalize uF 7 = x96 at h96 hF
              obtain rfl : x96 = (.bool false) := h96
              subst hF
              go_wp2_with (fail)
              exact ⟨rfl, rfl, (Below.refl _ _), rfl⟩
            · intro uF W hC' hU aF hF
              have hC : Below v8.heap.size v8 W := hC'
              clear hC'
              have h97 : (Det (.bool false)) (uF 8) W := hU.1
              clear hU
              simp only [puts, Act.put, List.setIfInBounds_toArray, List.set_cons_zero, List.set_cons_succ] at hF
              generalize uF 8 = x97 at h97 hF
              obtain rfl : x97 = (.bool false) := h97
              subst hF
              go_wp2_with (fail)
              exact ⟨rfl, rfl, (Below.refl _ _), rfl⟩
            · intro uF W hC' hU aF hF
              have hC : Below v8.heap.size v8 W := hC'
              clear hC'
              have h98 : (Det (.pointer (some ⟨u5.heap.size, 1, none⟩))) (uF 9) W := hU.1
              have h97 : (Det (.bool false)) (uF 8) W := hU.2.1
              clear hU
              simp only [puts, Act.put, List.setIfInBounds_toArray, List.set_cons_zero, List.set_cons_succ] at hF
              generalize uF 9 = x98 at h98 hF
              generalize uF 8 = x97 at h97 hF
              obtain rfl : x98 = (.pointer (some ⟨u5.heap.size, 1, none⟩)) := h98
              obtain rfl : x97 = (.bool false) := h97
              subst hF
              have d1 : W.cell? ⟨u5.heap.size, 1, none⟩ = some (.int .i64 ((i : Int) + 1)) := by rw [(HF8.out.below hC HF8.out.lt).cell]; rfl
              go_wp2_with (fail)
              exact ⟨rfl, rfl, (Below.refl _ _), rfl⟩
            · intro uF W hC' hU aF hF
              have hC : Below v8.heap.size v8 W := hC'
              clear hC'
              have h97 : (Det (.bool false)) (uF 8) W := hU.1
              clear hU
              simp only [puts, Act.put, List.setIfInBounds_toArray, List.set_cons_zero, List.set_cons_succ] at hF
              generalize uF 8 = x97 at h97 hF
              obtain rfl : x97 = (.bool false) := h97
              subst hF
              go_wp2_with (fail)
              exact ⟨rfl, rfl, (Below.refl _ _), rfl⟩
            · intro uF W hC' hU aF hF
              have hC : Below v8.heap.size v8 W := hC'
              clear hC'
              have h99 : (Det (.int .i64 ((i : Int) + 1))) (uF 10) W := hU.1
              have h100 : (Det (.int .i64 ((i : Int) + 1))) (uF 11) W := hU.2.1
              have h97 : (Det (.bool false)) (uF 8) W := hU.2.2.1
              clear hU
              simp only [puts, Act.put, List.setIfInBounds_toArray, List.set_cons_zero, List.set_cons_succ] at hF
              generalize uF 10 = x99 at h99 hF
              generalize uF 11 = x100 at h100 hF
              generalize uF 8 = x97 at h97 hF
              obtain rfl : x99 = (.int .i64 ((i : Int) + 1)) := h99
              obtain rfl : x100 = (.int .i64 ((i : Int) + 1)) := h100
              obtain rfl : x97 = (.bool false) := h97
              subst hF
              have hbn : (((i : Int) + 1) != ((i : Int) + 1)) = false := by simp
              go_wp2_with (fail)
              exact ⟨rfl, rfl, (Below.refl _ _), rfl⟩
            · intro uF W hC' hU aF hF
              have hC : Below v8.heap.size v8 W := hC'
              clear hC'
              have h97 : (Det (.bool false)) (uF 8) W := hU.1
              have h101 : (Det (.bool false)) (uF 12) W := hU.2.1
              clear hU
              simp only [puts, Act.put, List.setIfInBounds_toArray, List.set_cons_zero, List.set_cons_succ] at hF
              generalize uF 8 = x97 at h97 hF
              generalize uF 12 = x101 at h101 hF
              obtain rfl : x97 = (.bool false) := h97
              obtain rfl : x101 = (.bool false) := h101
              subst hF
              go_wp2_with (fail)
              exact ⟨rfl, rfl, (Below.refl _ _), rfl⟩
            · intro uF W hC' hU aF hF
              have hC : Below v8.heap.size v8 W := hC'
              clear hC'
              have h102 : (Det (.bool false)) (uF 13) W := hU.1
              clear hU
              simp only [puts, Act.put, List.setIfInBounds_toArray, List.set_cons_zero, List.set_cons_succ] at hF
              generalize uF 13 = x102 at h102 hF
              obtain rfl : x102 = (.bool false) := h102
              subst hF
              go_wp2_with (fail)
              exact ⟨rfl, rfl, (Below.refl _ _), rfl⟩
            · intro uF W hC' hU aF hF
              have hC : Below v8.heap.size v8 W := hC'
              clear hC'
              have h103 : (Det (.bool false)) (uF 14) W := hU.1
              clear hU
              simp only [puts, Act.put, List.setIfInBounds_toArray, List.set_cons_zero, List.set_cons_succ] at hF
              generalize uF 14 = x103 at h103 hF
              obtain rfl : x103 = (.bool false) := h103
              subst hF
              go_wp2_with (fail)
              exact ⟨rfl, rfl, (Below.refl _ _), rfl⟩
            · intro uF W hC' hU aF hF
              have hC : Below v8.heap.size v8 W := hC'
              clear hC'
              have h104 : (Det (.pointer (some ⟨u5.heap.size, 3, none⟩))) (uF 15) W := hU.1
              have h103 : (Det (.bool false)) (uF 14) W := hU.2.1
              clear hU
              simp only [puts, Act.put, List.setIfInBounds_toArray, List.set_cons_zero, List.set_cons_succ] at hF
              generalize uF 15 = x104 at h104 hF
              generalize uF 14 = x103 at h103 hF
              obtain rfl : x104 = (.pointer (some ⟨u5.heap.size, 3, none⟩)) := h104
              obtain rfl : x103 = (.bool false) := h103
              subst hF
              have d1 : W.cell? ⟨u5.heap.size, 3, none⟩ = some (.slice (some ⟨ga, 0, none⟩) 64 c') := by rw [(HF8.out.below hC HF8.out.lt).cell]; rfl
              go_wp2_with (fail)
              exact ⟨rfl, rfl, (Below.refl _ _), rfl⟩
            · intro uF W hC' hU aF hF
              have hC : Below v8.heap.size v8 W := hC'
              clear hC'
              have h105 : (Det (.slice (some ⟨ga, 0, none⟩) 64 c')) (uF 16) W := hU.1
              have h103 : (Det (.bool false)) (uF 14) W := hU.2.1
              clear hU
              simp only [puts, Act.put, List.setIfInBounds_toArray, List.set_cons_zero, List.set_cons_succ] at hF
              generalize uF 16 = x105 at h105 hF
              generalize uF 14 = x103 at h103 hF
              obtain rfl : x105 = (.slice (some ⟨ga, 0, none⟩) 64 c') := h105
              obtain rfl : x103 = (.bool false) := h103
              subst hF
              go_wp2_with (fail)
              exact ⟨rfl, rfl, (Below.refl _ _), rfl⟩
            · intro uF W hC' hU aF hF
              have hC : Below v8.heap.size v8 W := hC'
              clear hC'
              have h106 : (Det (.int .i64 64)) (uF 17) W := hU.1
              have h103 : (Det (.bool false)) (uF 14) W := hU.2.1
              clear hU
              simp only [puts, Act.put, List.setIfInBounds_toArray, List.set_cons_zero, List.set_cons_succ] at hF
              generalize uF 17 = x106 at h106 hF
              generalize uF 14 = x103 at h103 hF
              obtain rfl : x106 = (.int .i64 64) := h106
              obtain rfl : x103 = (.bool false) := h103
              subst hF
              go_wp2_with (fail)
              exact ⟨rfl, rfl, (Below.refl _ _), rfl⟩
            · intro uF W hC' hU aF hF
              have hC : Below v8.heap.size v8 W := hC'
              clear hC'
              have h103 : (Det (.bool false)) (uF 14) W := hU.1
              have h107 : (Det (.bool false)) (uF 18) W := hU.2.1
              clear hU
              simp only [puts, Act.put, List.setIfInBounds_toArray, List.set_cons_zero, List.set_cons_succ] at hF
              generalize uF 14 = x103 at h103 hF
              generalize uF 18 = x107 at h107 hF
              obtain rfl : x103 = (.bool false) := h103
              obtain rfl : x107 = (.bool false) := h107
              subst hF
              go_wp2_with (fail)
              exact ⟨rfl, rfl, (Below.refl _ _), rfl⟩
            · intro uF W hC' hU aF hF
              have hC : Below v8.heap.size v8 W := hC'
              clear hC'
              have h108 : (Det (.bool false)) (uF 19) W := hU.1
              clear hU
              simp only [puts, Act.put, List.setIfInBounds_toArray, List.set_cons_zero, List.set_cons_succ] at hF
              generalize uF 19 = x108 at h108 hF
              obtain rfl : x108 = (.bool false) := h108
              subst hF
              go_wp2_with (fail)
              exact ⟨rfl, rfl, (Below.refl _ _), rfl⟩
            · intro uF W hC' hU aF hF
              have hC : Below v8.heap.size v8 W := hC'
              clear hC'
              have h109 : (Det (.bool false)) (uF 20) W := hU.1
              clear hU
              simp only [puts, Act.put, List.setIfInBounds_toArray, List.set_cons_zero, List.set_cons_succ] at hF
              generalize uF 20 = x109 at h109 hF
              obtain rfl : x109 = (.bool false) := h109
              subst hF
              go_wp2_with (fail)
              exact ⟨rfl, rfl, (Below.refl _ _), rfl⟩
            · intro uF W hC' hU aF hF
              have hC : Below v8.heap.size v8 W := hC'
              clear hC'
              have h110 : (Det (.pointer (some ⟨u5.heap.size, 3, none⟩))) (uF 21) W := hU.1
              have h109 : (Det (.bool false)) (uF 20) W := hU.2.1
              clear hU
              simp only [puts, Act.put, List.setIfInBounds_toArray, List.set_cons_zero, List.set_cons_succ] at hF
              generalize uF 21 = x110 at h110 hF
              generalize uF 20 = x109 at h109 hF
              obtain rfl : x110 = (.pointer (some ⟨u5.heap.size, 3, none⟩)) := h110
              obtain rfl : x109 = (.bool false) := h109
              subst hF
              have d1 : W.cell? ⟨u5.heap.size, 3, none⟩ = some (.slice (some ⟨ga, 0, none⟩) 64 c') := by rw [(HF8.out.below hC HF8.out.lt).cell]; rfl
              go_wp2_with (fail)
              exact ⟨rfl, rfl, (Below.refl _ _), rfl⟩
            · intro uF W hC' hU aF hF
              have hC : Below v8.heap.size v8 W := hC'
              clear hC'
              have h111 : (Det (.slice (some ⟨ga, 0, none⟩) 64 c')) (uF 22) W := hU.1
              have h109 : (Det (.bool false)) (uF 20) W := hU.2.1
              clear hU
              simp only [puts, Act.put, List.setIfInBounds_toArray, List.set_cons_zero, List.set_cons_succ] at hF
              generalize uF 22 = x111 at h111 hF
              generalize uF 20 = x109 at h109 hF
              obtain rfl : x111 = (.slice (some ⟨ga, 0, none⟩) 64 c') := h111
              obtain rfl : x109 = (.bool false) := h109
              subst hF
              go_wp2_with (fail)
              exact ⟨rfl, rfl, (Below.refl _ _), rfl⟩
            · intro uF W hC' hU aF hF
              have hC : Below v8.heap.size v8 W := hC'
              clear hC'
              have h112 : (Det (.slice (some ⟨ga, 0, none⟩) 32 c')) (uF 23) W := hU.1
              have h109 : (Det (.bool false)) (uF 20) W := hU.2.1
              clear hU
              simp only [puts, Act.put, List.setIfInBounds_toArray, List.set_cons_zero, List.set_cons_succ] at hF
              generalize uF 23 = x112 at h112 hF
              generalize uF 20 = x109 at h109 hF
              obtain rfl : x112 = (.slice (some ⟨ga, 0, none⟩) 32 c') := h112
              obtain rfl : x109 = (.bool false) := h109
              subst hF
              have hcv := (HQ1.out.below hC).str
              go_wp2_with (fail)
              exact ⟨rfl, rfl, (Below.refl _ _), rfl⟩
            · intro uF W hC' hU aF hF
              have hC : Below v8.heap.size v8 W := hC'
              clear hC'
              have h109 : (Det (.bool false)) (uF 20) W := hU.1
              clear hU
              simp only [puts, Act.put, List.setIfInBounds_toArray, List.set_cons_zero, List.set_cons_succ] at hF
              generalize uF 20 = x109 at h109 hF
              obtain rfl : x109 = (.bool false) := h109
              subst hF
              have hto := arr_off_run (P := Try.prog) (T := 34) Try.underlying34 size1 (by omega) v3.heap.size 0
              go_wp2_with (fail)
              exact ⟨rfl, rfl, (Below.refl _ _), rfl⟩
            · intro uF W hC' hU aF hF
              have hC : Below v8.heap.size v8 W := hC'
              clear hC'
              have h114 : (Det (.slice (some ⟨v3.heap.size, 0, none⟩) 32 32)) (uF 25) W := hU.1
              have h109 : (Det (.bool false)) (uF 20) W := hU.2.1
              clear hU
              simp only [puts, Act.put, List.setIfInBounds_toArray, List.set_cons_zero, List.set_cons_succ] at hF
              generalize uF 25 = x114 at h114 hF
              generalize uF 20 = x109 at h109 hF
              obtain rfl : x114 = (.slice (some ⟨v3.heap.size, 0, none⟩) 32 32) := h114
              obtain rfl : x109 = (.bool false) := h109
              subst hF
              have hcv := ((sum_sl HD8.out HDL.out).below hC).str
              go_wp2_with (fail)
              exact ⟨rfl, rfl, (Below.refl _ _), rfl⟩
            · intro uF W hC' hU aF hF
              have hC : Below v8.heap.size v8 W := hC'
              clear hC'
              have h113 : (Det (.string ⟨dd.toArray⟩)) (uF 24) W := hU.1
              have h115 : (Det (.string ⟨dd.toArray⟩)) (uF 26) W := hU.2.1
              have h109 : (Det (.bool false)) (uF 20) W := hU.2.2.1
              clear hU
              simp only [puts, Act.put, List.setIfInBounds_toArray, List.set_cons_zero, List.set_cons_succ] at hF
              generalize uF 24 = x113 at h113 hF
              generalize uF 26 = x115 at h115 hF
              generalize uF 20 = x109 at h109 hF
              obtain rfl : x113 = (.string ⟨dd.toArray⟩) := h113
              obtain rfl : x115 = (.string ⟨dd.toArray⟩) := h115
              obtain rfl : x109 = (.bool false) := h109
              subst hF
              go_wp2_with (fail)
              exact ⟨rfl, rfl, (Below.refl _ _), rfl⟩
            · intro uF W hC' hU aF hF
              have hC : Below v8.heap.size v8 W := hC'
              clear hC'
              have h109 : (Det (.bool false)) (uF 20) W := hU.1
              have h116 : (Det (.bool false)) (uF 27) W := hU.2.1
              clear hU
              simp only [puts, Act.put, List.setIfInBounds_toArray, List.set_cons_zero, List.set_cons_succ] at hF
              generalize uF 20 = x109 at h109 hF
              generalize uF 27 = x116 at h116 hF
              obtain rfl : x109 = (.bool false) := h109
              obtain rfl : x116 = (.bool false) := h116
              subst hF
              go_wp2_with (fail)
              exact ⟨rfl, rfl, (Below.refl _ _), rfl⟩
            · intro uF W hC' hU aF hF
              have hC : Below v8.heap.size v8 W := hC'
              clear hC'
              have h117 : (Det (.bool false)) (uF 28) W := hU.1
              clear hU
              simp only [puts, Act.put, List.setIfInBounds_toArray, List.set_cons_zero, List.set_cons_succ] at hF
              generalize uF 28 = x117 at h117 hF
              obtain rfl : x117 = (.bool false) := h117
              subst hF
              go_wp2_with (fail)
              exact ⟨rfl, rfl, (Below.refl _ _), rfl⟩
            · intro uF W hC' hU aF hF
              have hC : Below v8.heap.size v8 W := hC'
              clear hC'
              have h118 : (Det (.bool false)) (uF 29) W := hU.1
              clear hU
              simp only [puts, Act.put, List.setIfInBounds_toArray, List.set_cons_zero, List.set_cons_succ] at hF
              generalize uF 29 = x118 at h118 hF
              obtain rfl : x118 = (.bool false) := h118
              subst hF
              go_wp2_with (fail)
              exact ⟨rfl, rfl, (Below.refl _ _), rfl⟩
            · intro uF W hC' hU aF hF
              have hC : Below v8.heap.size v8 W := hC'
              clear hC'
              have h119 : (Det (.pointer (some ⟨u5.heap.size, 3, none⟩))) (uF 30) W := hU.1
              have h118 : (Det (.bool false)) (uF 29) W := hU.2.1
              clear hU
              simp only [puts, Act.put, List.setIfInBounds_toArray, List.set_cons_zero, List.set_cons_succ] at hF
              generalize uF 30 = x119 at h119 hF
              generalize uF 29 = x118 at h118 hF
              obtain rfl : x119 = (.pointer (some ⟨u5.heap.size, 3, none⟩)) := h119
              obtain rfl : x118 = (.bool false) := h118
              subst hF
              have d1 : W.cell? ⟨u5.heap.size, 3, none⟩ = some (.slice (some ⟨ga, 0, none⟩) 64 c') := by rw [(HF8.out.below hC HF8.out.lt).cell]; rfl
              go_wp2_with (fail)
              exact ⟨rfl, rfl, (Below.refl _ _), rfl⟩
            · intro uF W hC' hU aF hF
              have hC : Below v8.heap.size v8 W := hC'
              clear hC'
              have h120 : (Det (.slice (some ⟨ga, 0, none⟩) 64 c')) (uF 31) W := hU.1
              have h118 : (Det (.bool false)) (uF 29) W := hU.2.1
              clear hU
              simp only [puts, Act.put, List.setIfInBounds_toArray, List.set_cons_zero, List.set_cons_succ] at hF
              generalize uF 31 = x120 at h120 hF
              generalize uF 29 = x118 at h118 hF
              obtain rfl : x120 = (.slice (some ⟨ga, 0, none⟩) 64 c') := h120
              obtain rfl : x118 = (.bool false) := h118
              subst hF
              go_wp2_with (fail)
              exact ⟨rfl, rfl, (Below.refl _ _), rfl⟩
            · intro uF W hC' hU aF hF
              have hC : Below v8.heap.size v8 W := hC'
              clear hC'
              have h121 : (Det (.slice (some ⟨ga, 32, none⟩) 32 (c' - 32))) (uF 32) W := hU.1
              have h118 : (Det (.bool false)) (uF 29) W := hU.2.1
              clear hU
              simp only [puts, Act.put, List.setIfInBounds_toArray, List.set_cons_zero, List.set_cons_succ] at hF
              generalize uF 32 = x121 at h121 hF
              generalize uF 29 = x118 at h118 hF
              obtain rfl : x121 = (.slice (some ⟨ga, 32, none⟩) 32 (c' - 32)) := h121
              obtain rfl : x118 = (.bool false) := h118
              subst hF
              have hcv := (HQ2.out.below hC).str
              go_wp2_with (fail)
              exact ⟨rfl, rfl, (Below.refl _ _), rfl⟩
            · intro uF W hC' hU aF hF
              have hC : Below v8.heap.size v8 W := hC'
              clear hC'
              have h118 : (Det (.bool false)) (uF 29) W := hU.1
              clear hU
              simp only [puts, Act.put, List.setIfInBounds_toArray, List.set_cons_zero, List.set_cons_succ] at hF
              generalize uF 29 = x118 at h118 hF
              obtain rfl : x118 = (.bool false) := h118
              subst hF
              have hto := arr_off_run (P := Try.prog) (T := 34) Try.underlying34 size1 (by omega) w7.heap.size 0
              go_wp2_with (fail)
              exact ⟨rfl, rfl, (Below.refl _ _), rfl⟩
            · intro uF W hC' hU aF hF
              have hC : Below v8.heap.size v8 W := hC'
              clear hC'
              have h123 : (Det (.slice (some ⟨w7.heap.size, 0, none⟩) 32 32)) (uF 34) W := hU.1
              have h118 : (Det (.bool false)) (uF 29) W := hU.2.1
              clear hU
              simp only [puts, Act.put, List.setIfInBounds_toArray, List.set_cons_zero, List.set_cons_succ] at hF
              generalize uF 34 = x123 at h123 hF
              generalize uF 29 = x118 at h118 hF
              obtain rfl : x123 = (.slice (some ⟨w7.heap.size, 0, none⟩) 32 32) := h123
              obtain rfl : x118 = (.bool false) := h118
              subst hF
              have hcv := ((sum_sl HA8.out HOWL.out).below hC).str
              go_wp2_with (fail)
              exact ⟨rfl, rfl, (Below.refl _ _), rfl⟩
            · intro uF W hC' hU aF hF
              have hC : Below v8.heap.size v8 W := hC'
              clear hC'
              have h122 : (Det (.string ⟨own.toArray⟩)) (uF 33) W := hU.1
              have h124 : (Det (.string ⟨own.toArray⟩)) (uF 35) W := hU.2.1
              have h118 : (Det (.bool false)) (uF 29) W := hU.2.2.1
              clear hU
              simp only [puts, Act.put, List.setIfInBounds_toArray, List.set_cons_zero, List.set_cons_succ] at hF
              generalize uF 33 = x122 at h122 hF
              generalize uF 35 = x124 at h124 hF
              generalize uF 29 = x118 at h118 hF
              obtain rfl : x122 = (.string ⟨own.toArray⟩) := h122
              obtain rfl : x124 = (.string ⟨own.toArray⟩) := h124
              obtain rfl : x118 = (.bool false) := h118
              subst hF
              go_wp2_with (fail)
              exact ⟨rfl, rfl, (Below.refl _ _), rfl⟩
            · intro uF W hC' hU aF hF
              have hC : Below v8.heap.size v8 W := hC'
              clear hC'
              have h118 : (Det (.bool false)) (uF 29) W := hU.1
              have h125 : (Det (.bool false)) (uF 36) W := hU.2.1
              clear hU
              simp only [puts, Act.put, List.setIfInBounds_toArray, List.set_cons_zero, List.set_cons_succ] at hF
              generalize uF 29 = x118 at h118 hF
              generalize uF 36 = x125 at h125 hF
              obtain rfl : x118 = (.bool false) := h118
              obtain rfl : x125 = (.bool false) := h125
              subst hF
              go_wp2_with (fail)
              exact ⟨rfl, rfl, (Below.refl _ _), rfl⟩
            · intro uF W hC' hU aF hF
              have hC : Below v8.heap.size v8 W := hC'
              clear hC'
              have h126 : (Det (.bool false)) (uF 37) W := hU.1
              clear hU
              simp only [puts, Act.put, List.setIfInBounds_toArray, List.set_cons_zero, List.set_cons_succ] at hF
              generalize uF 37 = x126 at h126 hF
              obtain rfl : x126 = (.bool false) := h126
              subst hF
              go_wp2_with (fail)
              exact ⟨rfl, rfl, (Below.refl _ _), rfl⟩
            · intro uF W hC' hU aF hF
              have hC : Below v8.heap.size v8 W := hC'
              clear hC'
              have h127 : (Det (.bool false)) (uF 38) W := hU.1
              clear hU
              simp only [puts, Act.put, List.setIfInBounds_toArray, List.set_cons_zero, List.set_cons_succ] at hF
              generalize uF 38 = x127 at h127 hF
              obtain rfl : x127 = (.bool false) := h127
              subst hF
              go_wp2_with (fail)
              exact ⟨rfl, rfl, (Below.refl _ _), rfl⟩
            · intro uF W hC' hU aF hF
              have hC : Below v8.heap.size v8 W := hC'
              clear hC'
              have h128 : (Det (.pointer (some ⟨gs, 0, none⟩))) (uF 39) W := hU.1
              have h127 : (Det (.bool false)) (uF 38) W := hU.2.1
              clear hU
              simp only [puts, Act.put, List.setIfInBounds_toArray, List.set_cons_zero, List.set_cons_succ] at hF
              generalize uF 39 = x128 at h128 hF
              generalize uF 38 = x127 at h127 hF
              obtain rfl : x128 = (.pointer (some ⟨gs, 0, none⟩)) := h128
              obtain rfl : x127 = (.bool false) := h127
              subst hF
              go_wp2_with ((go_at_call 15; refine (state_c (HE8.out.below hC)).mono ?_; rintro e W1 ⟨rfl, rfl⟩))
              exact ⟨rfl, rfl, (Below.refl _ _), rfl⟩
            · intro uF W hC' hU aF hF
              have hC : Below v8.heap.size v8 W := hC'
              clear hC'
              have h129 : (Det (.int .i64 1)) (uF 40) W := hU.1
              have h127 : (Det (.bool false)) (uF 38) W := hU.2.1
              clear hU
              simp only [puts, Act.put, List.setIfInBounds_toArray, List.set_cons_zero, List.set_cons_succ] at hF
              generalize uF 40 = x129 at h129 hF
              generalize uF 38 = x127 at h127 hF
              obtain rfl : x129 = (.int .i64 1) := h129
              obtain rfl : x127 = (.bool false) := h127
              subst hF
              go_wp2_with (fail)
              exact ⟨rfl, rfl, (Below.refl _ _), rfl⟩
            · intro uF W hC' hU aF hF
              have hC : Below v8.heap.size v8 W := hC'
              clear hC'
              have h127 : (Det (.bool false)) (uF 38) W := hU.1
              have h130 : (Det (.bool false)) (uF 41) W := hU.2.1
              clear hU
              simp only [puts, Act.put, List.setIfInBounds_toArray, List.set_cons_zero, List.set_cons_succ] at hF
              generalize uF 38 = x127 at h127 hF
              generalize uF 41 = x130 at h130 hF
              obtain rfl : x127 = (.bool false) := h127
              obtain rfl : x130 = (.bool false) := h130
              subst hF
              go_wp2_with (fail)
              exact ⟨rfl, rfl, (Below.refl _ _), rfl⟩
          intro uF W9 hC' hU aF hF
          have hCW9 : Below v8.heap.size v8 W9 := hC'
          clear hC'
          have h131 : (Det (.bool false)) (uF 42) W9 := hU.2.2.2.2.2.2.2.2.2.2.2.2.2.2.2.2.2.2.2.2.2.2.2.2.2.2.2.2.2.2.2.2.2.2.2.2.2.2.2.2.2.2.1
          clear hU
          simp only [puts, Act.put, List.setIfInBounds_toArray, List.set_cons_zero, List.set_cons_succ] at hF
          generalize uF 0 = x89 at hF
          generalize uF 1 = x90 at hF
          generalize uF 2 = x91 at hF
          generalize uF 3 = x92 at hF
          generalize uF 4 = x93 at hF
          generalize uF 5 = x94 at hF
          generalize uF 6 = x95 at hF
          generalize uF 7 = x96 at hF
          generalize uF 8 = x97 at hF
          generalize uF 9 = x98 at hF
          generalize uF 10 = x99 at hF
          generalize uF 11 = x100 at hF
          generalize uF 12 = x101 at hF
          generalize uF 13 = x102 at hF
          generalize uF 14 = x103 at hF
          generalize uF 15 = x104 at hF
          generalize uF 16 = x105 at hF
          generalize uF 17 = x106 at hF
          generalize uF 18 = x107 at hF
          generalize uF 19 = x108 at hF
          generalize uF 20 = x109 at hF
          generalize uF 21 = x110 at hF
          generalize uF 22 = x111 at hF
          generalize uF 23 = x112 at hF
          generalize uF 24 = x113 at hF
          generalize uF 25 = x114 at hF
          generalize uF 26 = x115 at hF
          generalize uF 27 = x116 at hF
          generalize uF 28 = x117 at hF
          generalize uF 29 = x118 at hF
          generalize uF 30 = x119 at hF
          generalize uF 31 = x120 at hF
          generalize uF 32 = x121 at hF
          generalize uF 33 = x122 at hF
          generalize uF 34 = x123 at hF
          generalize uF 35 = x124 at hF
          generalize uF 36 = x125 at hF
          generalize uF 37 = x126 at hF
          generalize uF 38 = x127 at hF
          generalize uF 39 = x128 at hF
          generalize uF 40 = x129 at hF
          generalize uF 41 = x130 at hF
          generalize uF 42 = x131 at h131 hF
          obtain rfl : x131 = (.bool false) := h131
          subst hF
          go_wp2_with fail
          exact ⟨⟨i + 1, ⟨1, s.gr + 1, s.nx, dd⟩, by omega, by go_num, by rw [HGR.out], HNX.out, (if_neg (by omega)).symm, .inr (by have := HGOOD.out; have := HDS.out; omega), HE8.out.below hCW9, HBL8.out.trans (hCW9.mono HBL8.out.size), HF89.out.trans (Fr.below hCW9)⟩, by simp [intOf]; omega⟩
    · obtain rfl : i = n := by omega
      have hil : ¬ (i : Int) + 1 ≤ (i : Int) := by omega
      have HW := Lib.hid hw
      clear hse hw hf hnx hst hgr hok
      go_wp2_with fail
      go_ret
      exact ⟨rfl, HW.out⟩
end Go.Proofs.Ytiadfbcdopfibaa

