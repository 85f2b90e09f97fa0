/-
  TreeBinds: bound (printed by wip/gen_binds.py).
-/
import Derived.Test.YtdifepfplfkfoaaBindsC
import Derived.Test.YtdifepfplfkfoaaMoreS
namespace Go.Proofs.Ytdifepfplfkfoaa
open Go.RowKit Go.Shelf
set_option linter.unusedVariables false
set_option linter.unusedSimpArgs false
set_option maxRecDepth 100000
attribute [local go_sem] Oper.semAt_some

theorem OwS.pre' {w : World} {base n c k : Nat} {A : Option Addr} {xs : List UInt8} (h : OwS w base A n c xs) (hk : k ≤ n) : OwS w base A k c (xs.take (k * 32)) := by
  have hl := h.len
  refine ⟨by rw [List.length_map, List.length_take, hl]; omega, Nat.le_trans hk h.2.1, h.2.2.1, fun hc => ?_⟩
  obtain ⟨g, cur, e, hg, hb, hs, ht⟩ := h.2.2.2 hc
  refine ⟨g, cur, e, hg, hb, hs, ?_⟩
  rw [List.map_take, ← ht, List.take_take, Nat.min_eq_left (by omega)]
theorem and1 (q : Nat) (hq : q < 16) : bits .and .i64 (q : Int) 1 = ((q % 2 : Nat) : Int) := by
  have h : ∀ q : Fin 16, bits .and .i64 (q.val : Int) 1 = ((q.val % 2 : Nat) : Int) := by decide
  exact h ⟨q, hq⟩
set_option maxHeartbeats 4000000 in
theorem bound_big {w : World} {A0 A1 A2 : Option Addr} {n0 c0 n1 c1 n2 c2 : Nat} {key bs1 bs2 : List UInt8} (b : Int) (ob : UInt8) (h0 : SlB w w.heap.size A0 n0 c0 key) (h1 : SlB w w.heap.size A1 n1 c1 bs1) (h2 : SlB w w.heap.size A2 n2 c2 bs2) (m1 : n1 ≤ 1048576) (m2 : n2 ≤ 1048576) (hbig : 1000 < n0) :
    Calls Try.prog 9 #[.slice A0 n0 c0, .slice A1 n1 c1, .slice A2 n2 c2, .int .i64 b, .int .u8 (ob.toNat : Int)] w fun e w' => e = .returned (.bool true) ∧ Below w.heap.size w w' := by
  obtain ⟨gK, hgK⟩ : ∃ g, g = w.heap.size := ⟨_, rfl⟩
  obtain ⟨gR, hgR⟩ : ∃ g, g = w.heap.size + 1 := ⟨_, rfl⟩
  obtain ⟨v, hv⟩ : ∃ v, v = (w.alloc (.cells #[.slice A0 n0 c0] 22)).alloc (.cells #[.bool false] 4) := ⟨_, rfl⟩
  have bK : Blk v gK 22 #[.slice A0 n0 c0] := by rw [hv, hgK]; exact (Blk.new _ _ _).alloc _
  have bR : Blk v gR 4 #[.bool false] := by
    have := Blk.new (w.alloc (.cells #[.slice A0 n0 c0] 22)) 4 #[.bool false]
    rw [World.size_alloc] at this
    rw [hv, hgR]; exact this
  have hbv : Below w.heap.size w v := by rw [hv]; exact ((Below.refl _ _).alloc (Nat.le_refl _) _).alloc (by simp) _
  have hz := hbv.size
  have hgRv := bR.lt
  have hgKR : gK < gR ∧ w.heap.size ≤ gK := by omega
  have K0 := Lib.hid (h0.below hbv |>.more hz)
  have L0 := Lib.hid (h1.below hbv |>.more hz)
  have T0 := Lib.hid (h2.below hbv |>.more hz)
  have HV := Lib.hid hv
  have H0K := Lib.hid h0
  have HGK := Lib.hid hgK
  have HGR := Lib.hid hgR
  clear h0 h1 h2 hv hgK hgR
  have hbi : (1000 : Int) < (n0 : Int) := by omega
  have dK : v.cell? ⟨gK, 0, none⟩ = some (.slice A0 n0 c0) := by rw [bK.cell]; rfl
  have dR : v.cell? ⟨gR, 0, none⟩ = some (.bool false) := by rw [bR.cell]; rfl
  have fR := bR.frozen 0
  rw [HV.out, HGK.out] at dK
  rw [HV.out, HGR.out] at dR fR
  refine calls_of_wp_marks Try.func9 rfl ?_
  simp only [Try.ntmps9, List.size_toArray, List.length_cons, List.length_nil, Nat.reduceAdd, Nat.reduceSub, Array.replicate_succ, Array.replicate_zero, List.push_toArray, List.append_toArray, List.nil_append, List.cons_append]
  go_wp2_with fail
  have hb4' : Blk ((w.alloc (.cells #[.slice A0 n0 c0] 22)).alloc (.cells #[.bool true] 4)) (w.heap.size + 1) 4 #[.bool true] := by
    have := Blk.new (w.alloc (.cells #[.slice A0 n0 c0] 22)) 4 #[.bool true]
    rwa [World.size_alloc] at this
  refine ⟨_, res_bool rfl _ (w.heap.size + 1) 4 true Try.underlying4 rfl hb4', rfl, ?_⟩
  exact ((Below.refl _ _).alloc (Nat.le_refl _) _).alloc (by simp) _
set_option maxHeartbeats 4000000 in
theorem bound_small {w : World} {A0 A1 A2 : Option Addr} {n0 c0 n1 c1 n2 c2 : Nat} {key bs1 bs2 : List UInt8} (b : Int) (ob : UInt8) (h0 : SlB w w.heap.size A0 n0 c0 key) (h1 : SlB w w.heap.size A1 n1 c1 bs1) (h2 : SlB w w.heap.size A2 n2 c2 bs2) (m1 : n1 ≤ 1048576) (m2 : n2 ≤ 1048576) (hbig : ¬ 1000 < n0) :
    Calls Try.prog 9 #[.slice A0 n0 c0, .slice A1 n1 c1, .slice A2 n2 c2, .int .i64 b, .int .u8 (ob.toNat : Int)] w fun e w' => e = .returned (.bool true) ∧ Below w.heap.size w w' := by
  obtain ⟨gK, hgK⟩ : ∃ g, g = w.heap.size := ⟨_, rfl⟩
  obtain ⟨gR, hgR⟩ : ∃ g, g = w.heap.size + 1 := ⟨_, rfl⟩
  obtain ⟨v, hv⟩ : ∃ v, v = (w.alloc (.cells #[.slice A0 n0 c0] 22)).alloc (.cells #[.bool false] 4) := ⟨_, rfl⟩
  have bK : Blk v gK 22 #[.slice A0 n0 c0] := by rw [hv, hgK]; exact (Blk.new _ _ _).alloc _
  have bR : Blk v gR 4 #[.bool false] := by
    have := Blk.new (w.alloc (.cells #[.slice A0 n0 c0] 22)) 4 #[.bool false]
    rw [World.size_alloc] at this
    rw [hv, hgR]; exact this
  have hbv : Below w.heap.size w v := by rw [hv]; exact ((Below.refl _ _).alloc (Nat.le_refl _) _).alloc (by simp) _
  have hz := hbv.size
  have hgRv := bR.lt
  have hgKR : gK < gR ∧ w.heap.size ≤ gK := by omega
  have K0 := Lib.hid (h0.below hbv |>.more hz)
  have L0 := Lib.hid (h1.below hbv |>.more hz)
  have T0 := Lib.hid (h2.below hbv |>.more hz)
  have HV := Lib.hid hv
  have H0K := Lib.hid h0
  have HGK := Lib.hid hgK
  have HGR := Lib.hid hgR
  clear h0 h1 h2 hv hgK hgR
  obtain ⟨u, hu⟩ : ∃ u : Nat, IntKind.u64.wrap b = (u : Int) := ⟨(IntKind.u64.wrap b).toNat, by rw [Int.toNat_of_nonneg (by rw [wrap_u64]; omega)]⟩
  obtain ⟨kk, hkk⟩ : ∃ kk : Nat, kk = u % 16 := ⟨_, rfl⟩
  have htm : ((u : Int)).tmod 16 = (kk : Int) := by rw [Int.tmod_eq_emod_of_nonneg (by omega)]; omega
  have hmd : (u : Int) % 16 = (kk : Int) := by omega
  have hk16 : (kk : Int) < 16 := by omega
  have hk0 : (0 : Int) ≤ (kk : Int) := by omega
  have hkn : kk < 16 := by omega
  clear hkk
  have hbi : ¬ (1000 : Int) < (n0 : Int) := by omega
  have dK : v.cell? ⟨gK, 0, none⟩ = some (.slice A0 n0 c0) := by rw [bK.cell]; rfl
  rw [HV.out, HGK.out] at dK
  have BK := Lib.hid bK
  have BR := Lib.hid bR
  clear bK bR
  refine calls_of_wp_marks Try.func9 rfl ?_
  simp only [Try.ntmps9, List.size_toArray, List.length_cons, List.length_nil, Nat.reduceAdd, Nat.reduceSub, Array.replicate_succ, Array.replicate_zero, List.push_toArray, List.append_toArray, List.nil_append, List.cons_append]
  go_wp2_with (first
    | ((fail_if_success have hx := h3); go_at_call 23; rw [← HV.out, ← HGR.out, ← HGK.out]; refine (sums_c L0.out (Nat.le_refl _) (by omega)).mono ?_; rintro e v2 ⟨A3, c3, rfl, h3, hb2⟩; have hz2 := hb2.size)
    | (at_builtin; refine wpList_append_mk2S (m := 16) rfl (.tmp 29) (.const (.int .i64 16)) rfl rfl h3 rfl (by omega) (by omega) (by omega) hz2 (n1 + 16) rfl ?_; intro A4 c4 v4 h4 q4; have hv4 : Below v.heap.size v v4 := q4.below h3 hb2 (Nat.le_refl _) hz2; have hz4 := hv4.size; have hl4 := h4.le; have hm4 := h4.cap; have h4' := OwS.pre' h4 (k := 16) (by omega); have e0 : v4.cell? ⟨gK, 0, none⟩ = some (.slice A0 n0 c0) := (by rw [(BK.out.below hv4 BK.out.lt).cell]; rfl); clear q4 h3 h4)
    | (go_at_call 24; refine (build_c (K0.out.below hv4) hz4 (by omega) h4'.sl (Nat.le_refl _)).mono ?_; rintro e v5 ⟨g5, c5, rfl, h5, hb5⟩; have hv5 := hv4.trans (hb5.mono hz4); have hz5 := hv5.size; have h45 := OwS.below h4' hb5; have hc5 := OwS.le h5; have hcc5 := h5.2.2.1; obtain ⟨wa, hwa⟩ : ∃ x, x = ((v5.alloc (.cells #[.slice (some ⟨g5, 0, none⟩) 32 c5] 51)).alloc (.cells #[.int .i64 (kk : Int)] 3)).alloc (.cells #[.int .u8 (ob.toNat : Int)] 5) := ⟨_, rfl⟩; obtain ⟨gT, hgT⟩ : ∃ g, g = v5.heap.size := ⟨_, rfl⟩; obtain ⟨gI, hgI⟩ : ∃ g, g = v5.heap.size + 1 := ⟨_, rfl⟩; obtain ⟨gL, hgL⟩ : ∃ g, g = v5.heap.size + 1 + 1 := ⟨_, rfl⟩; have hbwa : Below v5.heap.size v5 wa := (by rw [hwa]; exact (((Below.refl _ _).alloc (Nat.le_refl _) _).alloc (by simp) _).alloc (by simp only [World.size_alloc]; omega) _); have BT := Lib.hid (show Blk wa gT 51 #[.slice (some ⟨g5, 0, none⟩) 32 c5] by rw [hwa, hgT]; exact ((Blk.new _ _ _).alloc _).alloc _); have BI := Lib.hid (show Blk wa gI 3 #[.int .i64 (kk : Int)] by have := (Blk.new (v5.alloc (.cells #[.slice (some ⟨g5, 0, none⟩) 32 c5] 51)) 3 #[.int .i64 (kk : Int)]).alloc (.cells #[.int .u8 (ob.toNat : Int)] 5); rw [World.size_alloc] at this; rw [hwa, hgI]; exact this); have BL := Lib.hid (show Blk wa gL 5 #[.int .u8 (ob.toNat : Int)] by have := Blk.new ((v5.alloc (.cells #[.slice (some ⟨g5, 0, none⟩) 32 c5] 51)).alloc (.cells #[.int .i64 (kk : Int)] 3)) 5 #[.int .u8 (ob.toNat : Int)]; rw [World.size_alloc, World.size_alloc] at this; rw [hwa, hgL]; exact this); have hzwa := hbwa.size; have hlwa := BL.out.lt; have hs1 : SlB wa wa.heap.size (some ⟨gL, 0, none⟩) 1 1 [ob] := ⟨by simp, Nat.le_refl _, by simp [maxLen], fun _ => ⟨gL, 0, rfl, hlwa, fun j u hu => by rw [BL.out.cell, Nat.zero_add]; simpa [b8] using hu⟩⟩; have HWA := Lib.hid hwa; have HGT := Lib.hid hgT; have HGI := Lib.hid hgI; have HGL := Lib.hid hgL; have HH5 := Lib.hid (OwS.below h5 hbwa); have HH4 := Lib.hid (OwS.below h45 hbwa); have HVA := Lib.hid (hv5.trans (hbwa.mono hz5)); have hvaz := HVA.out.size; have hgTI : gT < gI ∧ gI < gL ∧ v5.heap.size ≤ gT := (by omega); have hvg : v.heap.size ≤ v5.heap.size := hz5; clear hwa hgT hgI hgL h5 h45 hbwa h4' hb5 hv5 hb2 hv4)
    | ((have hprev := hs1); (fail_if_success have hx := h7); go_at_call 23; rw [← HWA.out, ← HGL.out, ← HGI.out, ← HGT.out]; refine (sums_c hs1 (Nat.le_refl _) (by omega)).mono ?_; rintro e v7 ⟨A7, c7, rfl, h7, hb7⟩; have hz7 := hb7.size; have hc7 := OwS.le h7; have hcc7 := h7.2.2.1; obtain ⟨g7, _, ea, _⟩ := h7.2.2.2 (by omega); subst ea; have dO := Lib.hid (OwS.elt_ h7 (i := 0) (by omega)); have hlo := len_elt h7.len (i := 0) (by omega); obtain ⟨O, hO⟩ : ∃ O, O = elt (sumsOf [ob]) 0 := ⟨_, rfl⟩; rw [← hO] at dO hlo; have bO := Blk.new v7 28 (arr8 (z8' 32)); obtain ⟨gO, hgO⟩ : ∃ g, g = v7.heap.size := ⟨_, rfl⟩; have HGO := Lib.hid hgO; clear hgO hO)
    | ((with_reducible show wpList _ _ _ (Oper.mk (some 53) _ _ _ _ _ :: _) _ _); refine wpList_load_agg rfl 28 (.tmp 52) rfl g7 0 rfl (arr8 O) agg44 (by rw [size_arr8, hlo]) (fun j v hv => by simpa using dO.out j v hv) ?_)
    | ((with_reducible show wpList _ _ _ (Oper.mk (some 15) (Op.alloc 28) _ _ _ _ :: _) _ _); refine wpList_alloc_agg rfl 28 rfl (arr8 (z8' 32)) zero44 ?_)
    | ((with_reducible show wpList _ _ _ (Oper.mk none (Op.store 28 (.tmp 15) (.tmp 53)) _ _ _ _ :: _) _ _); refine wpList_store8 rfl 28 (.tmp 15) (.tmp 53) rfl v7.heap.size rfl O rfl agg44 hlo _ _ bO (by rw [size_arr8, len_z8']) ?_; intro v8 hb8 hgr8 hs8; rw [← HGO.out] at hb8 ⊢; have h78 : Below v7.heap.size v7 v8 := (below_alloc _ _).grown hgr8 (by simp) (fun k hk => by cases hk; exact Nat.le_refl _); have ha8 := hb7.trans (h78.mono hz7); have hz78 := h78.size; have hza8 := ha8.size; have BO := Lib.hid hb8; have BT8 := Lib.hid (BT.out.below ha8 BT.out.lt); have BI8 := Lib.hid (BI.out.below ha8 BI.out.lt); have HT8 := Lib.hid (OwS.below HH5.out ha8); have HL8 := Lib.hid (OwS.below HH4.out ha8); have HV8 := Lib.hid (HVA.out.trans (ha8.mono hvaz)); have k0 : OwS (v8.alloc (.cells #[] 28)) v8.heap.size (some ⟨v8.heap.size, 0, none⟩) 0 0 [] := Row.nil _ _ _ _ _; have hbe : Below v8.heap.size v8 (v8.alloc (.cells #[] 28)) := below_alloc _ _; have hsT := (OwS.below HT8.out hbe).sl; have eT8 : (v8.alloc (.cells #[] 28)).cell? ⟨gT, 0, none⟩ = some (.slice (some ⟨g5, 0, none⟩) 32 c5) := (by rw [(BT8.out.below hbe BT8.out.lt).cell]; rfl); clear hs8 hgr8 h78 ha8 hb7 h7 hb8)
    | (at_builtin; (have hp8 := hsT); refine wpList_appendS rfl (.tmp 54) (.tmp 55) rfl rfl k0 rfl hsT (by omega) (by simp) 32 (by omega) ?_; intro A9 c9 v9 h9 q9; have hb89 : Below v8.heap.size v8 v9 := q9.below k0 hbe (Nat.le_refl _) (by simp); have hz89 := hb89.size; have hc9 := OwS.le h9; have hcc9 := h9.2.2.1; obtain ⟨gu, _, ea, hgu, _⟩ := h9.2.2.2 (by omega); subst ea; rw [List.nil_append] at h9; obtain ⟨wu, hwu⟩ : ∃ x, x = v9.alloc (.cells #[.slice (some ⟨gu, 0, none⟩) 32 c9] 51) := ⟨_, rfl⟩; obtain ⟨gU, hgU⟩ : ∃ g, g = v9.heap.size := ⟨_, rfl⟩; have hb9u : Below v9.heap.size v9 wu := (by rw [hwu]; exact below_alloc _ _); have BU := Lib.hid (show Blk wu gU 51 #[.slice (some ⟨gu, 0, none⟩) 32 c9] by rw [hwu, hgU]; exact Blk.new _ _ _); have hgul := OwS.lt h9 (by omega); have HU9 := Lib.hid (OwS.below h9 hb9u); have h8u := hb89.trans (hb9u.mono hz89); have hz8u := h8u.size; have HVU := Lib.hid (HV8.out.trans (h8u.mono (Nat.le_trans hvaz hza8))); have hvuz := HVU.out.size; have HWU := Lib.hid hwu; have HGU := Lib.hid hgU; have hguU : gu < gU := (by omega); clear hwu hgU hb9u h9 q9 hb89 k0 hbe hsT eT8)
    | ((have hp9 := HWU); (fail_if_success have hx := h11); go_at_call 23; rw [← HWU.out, ← HGU.out]; refine (sums_c (T0.out.below HVU.out) hvuz (by omega)).mono ?_; rintro e v11 ⟨A11, c11, rfl, h11, hb11⟩; have hz11 := hb11.size))
  obtain ⟨L, hL⟩ : ∃ L, L = List.take (16 * 32) (sumsOf bs1 ++ zsOf 16) := ⟨_, rfl⟩
  obtain ⟨T, hT⟩ : ∃ T, T = buildT key L := ⟨_, rfl⟩
  have h8b : Below v8.heap.size v8 v11 := h8u.trans (hb11.mono hz8u)
  have hT11 := OwS.below HT8.out h8b
  have hL11 := OwS.below HL8.out h8b
  have hU11 := OwS.below HU9.out hb11
  rw [← hL] at hT11 hL11 hU11
  rw [← hT] at hT11 hU11
  have hLl : L.length = 16 * 32 := hL11.len
  have hTl : T.length = 32 * 32 := hT11.len
  have HTREE := Lib.hid (show IsTree key T by rw [hT]; exact isTree_build hLl)
  have HLEAF := Lib.hid (show elt T (16 + kk) = elt L kk by rw [hT]; exact build_leaf hLl hkn)
  obtain ⟨g4, _, ea4, hg4, _⟩ := hL11.2.2.2 (by omega)
  subst ea4
  have hg4l := OwS.lt HL8.out (by omega)
  have hg5l := OwS.lt HT8.out (by omega)
  have BT1 := Lib.hid (BT8.out.below h8b BT8.out.lt)
  have BI1 := Lib.hid (BI8.out.below h8b BI8.out.lt)
  have BO1 := Lib.hid (BO.out.below h8b BO.out.lt)
  have BU1 := Lib.hid (BU.out.below hb11 BU.out.lt)
  have hv11 := HVU.out.trans (hb11.mono hvuz)
  have BK1 := Lib.hid (BK.out.below hv11 BK.out.lt)
  have BR1 := Lib.hid (BR.out.below hv11 BR.out.lt)
  have hvv8 := HV8.out.size
  have hgTl := BT8.out.lt
  have hgIl := BI8.out.lt
  have hgOl := BO.out.lt
  have hgKl := BK.out.lt
  have hN4 : g4 ≠ gu ∧ g5 ≠ gu ∧ gT ≠ gu ∧ gI ≠ gu ∧ gO ≠ gu ∧ gU ≠ gu ∧ gK ≠ gu ∧ gR ≠ gu := by omega
  have hguw := BU.out.lt
  have hvgu : v.heap.size ≤ gu := by omega
  have HT1 := Lib.hid hT11
  have HL1 := Lib.hid hL11
  have HU1 := Lib.hid hU11
  have HX1 := Lib.hid h11
  have HV1 := Lib.hid hv11
  have HLD := Lib.hid hL
  have HTD := Lib.hid hT
  clear hT11 hL11 hU11 h11 hL hT hv11 h8b h8u hb11 BT8 BI8 BO BU HT8 HL8 HU9 HH5 HH4 BT BI HV8 HVU HVA e0 hs1 BL dO bO hprev hp8 hp9
  clear htm hmd hu dK
  go_loopw [60] (fun v60 wr => ∃ (i : Nat) (U : List UInt8), i ≤ n2 ∧ v60 = .int .i64 (i : Int) ∧ OwS wr v8.heap.size (some ⟨gu, 0, none⟩) 32 c9 U ∧ Fr [gu] v11 wr ∧ Below v.heap.size v wr) (fun v60 _ => n2 - (intOf v60).toNat)
  case atStart => exact ⟨0, T, by omega, rfl, HU1.out, Fr.below (Below.refl _ _), HV1.out⟩
  case round =>
    obtain ⟨i, U, hi, rfl, hU, hF, hw⟩ := hrel
    have hi0 : (0 : Int) ≤ (i : Int) := by omega
    have hzw := hw.size
    have hzF := hF.1
    by_cases hlt : i < n2
    · have hil : (i : Int) < (n2 : Int) := by omega
      have hi9 : (i : Int) < 1048576 := by omega
      have hxr : OwS wr wu.heap.size A11 n2 c11 (sumsOf bs2) := Row.frm HX1.out hF (fun g h1 h2 => by simp; omega)
      have hc11 := OwS.le hxr
      have hcc11 := hxr.2.2.1
      obtain ⟨g11, _, ea11, hg11, _⟩ := hxr.2.2.2 (by omega)
      subst ea11
      have hxl := len_elt hxr.len (i := i) hlt
      have dX := Lib.hid (OwS.elt_ hxr (i := i) hlt)
      obtain ⟨x, hx⟩ : ∃ x, x = elt (sumsOf bs2) i := ⟨_, rfl⟩
      rw [← hx] at dX hxl
      have hslw := T0.out.below hw
      have hll := hslw.len
      have hcl := hslw.le
      have hcm := hslw.cap
      obtain ⟨b2, off2, ea2, hb2l, hj2⟩ := hslw.at_ (by omega)
      subst ea2
      obtain ⟨y, hy⟩ : ∃ y, bs2[i]? = some y := ⟨bs2[i]'(by omega), List.getElem?_eq_getElem _⟩
      have bS := Blk.new wr 28 (arr8 (z8' 32))
      have d71r := hj2 i y hy
      obtain ⟨yi, hyi⟩ : ∃ yi : Int, yi = (y.toNat : Int) := ⟨_, rfl⟩
      rw [← hyi] at d71r
      have HU := Lib.hid hU
      have HF := Lib.hid hF
      have HW := Lib.hid hw
      have hgur := OwS.lt hU (by omega)
      have buw := hF.blk BU1.out (by simp; omega)
      have BUW := Lib.hid buw
      have hwrz : w.heap.size ≤ wr.heap.size := by omega
      clear hx hxr hU hF hw hslw hj2 buw
      have ARM := True.intro
      by_cases hyy : i < 32 ∧ 0 < yi
      · have hi32 : (i : Int) < 32 := by omega
        have hy0 : (0 : Int) < yi := hyy.2
        clear hyi
        go_wp2_with (first
          | ((with_reducible show wpList _ _ _ (Oper.mk (some 64) (Op.load 28 _) _ _ _ _ :: _) _ _); refine wpList_load_agg (by rfl) 28 (.tmp 63) rfl g11 (i * 32) rfl (arr8 x) agg44 (by rw [size_arr8, hxl]) (fun j v hv => dX.out j v hv) ?_)
          | ((with_reducible show wpList _ _ _ (Oper.mk (some 18) (Op.alloc 28) _ _ _ _ :: _) _ _); refine wpList_alloc_agg rfl 28 rfl (arr8 (z8' 32)) zero44 ?_)
          | ((with_reducible show wpList _ _ _ (Oper.mk none (Op.store 28 (.tmp 18) (.tmp 64)) _ _ _ _ :: _) _ _); refine wpList_store8 rfl 28 (.tmp 18) (.tmp 64) rfl wr.heap.size rfl x rfl agg44 hxl _ _ bS (by rw [size_arr8, len_z8']) ?_; intro v12 hb12 q12 s12; have hw12 : Below wr.heap.size wr v12 := (below_alloc _ _).grown q12 (by simp) (fun k hk => by cases hk; exact Nat.le_refl _); have d71 : v12.cell? ⟨b2, off2 + i, none⟩ = some (.int .u8 yi) := (hw12.cell (p := ⟨b2, off2 + i, none⟩) (show b2 < wr.heap.size by omega)).trans d71r; have dU : v12.cell? ⟨gU, 0, none⟩ = some (.slice (some ⟨gu, 0, none⟩) 32 c9) := (by rw [(BUW.out.below hw12 BUW.out.lt).cell]; rfl))
          | ((with_reducible show wpList _ _ _ (Oper.mk (some 76) (Op.load 28 _) _ _ _ _ :: _) _ _); refine wpList_load_whole (by rfl) 28 (.tmp 18) rfl wr.heap.size rfl (arr8 x) agg44 (by rw [size_arr8, hxl]) 28 hb12 ?_)
          | ((with_reducible show wpList _ _ _ (Oper.mk none (Op.store 28 (.tmp 77) (.tmp 76)) _ _ _ _ :: _) _ _); refine wpList_storeS rfl 28 (.tmp 77) (.tmp 76) rfl gu i rfl x rfl agg44 hxl (OwS.below HU.out hw12) (by omega) ?_; intro v13 h13 q13 s13))
        exact ⟨⟨i + 1, putS U i x, by omega, by go_num, h13, (HF.out.trans (Fr.below hw12)).trans (Fr.of1 q13), (HW.out.trans (hw12.mono HW.out.size)).grown q13 (by have := HW.out.size; have := hw12.size; omega) (fun k hk => by cases hk; exact hvgu)⟩, by simp [intOf]; omega⟩
      · by_cases hi3 : i < 32
        · have hi32 : (i : Int) < 32 := by omega
          have hy0 : ¬ (0 : Int) < yi := fun h => hyy ⟨hi3, h⟩
          have hyd : decide ((0 : Int) < yi) = false := decide_eq_false hy0
          clear hyi hyy
          go_wp2_with (first
          | ((with_reducible show wpList _ _ _ (Oper.mk (some 64) (Op.load 28 _) _ _ _ _ :: _) _ _); refine wpList_load_agg (by rfl) 28 (.tmp 63) rfl g11 (i * 32) rfl (arr8 x) agg44 (by rw [size_arr8, hxl]) (fun j v hv => dX.out j v hv) ?_)
          | ((with_reducible show wpList _ _ _ (Oper.mk (some 18) (Op.alloc 28) _ _ _ _ :: _) _ _); refine wpList_alloc_agg rfl 28 rfl (arr8 (z8' 32)) zero44 ?_)
          | ((with_reducible show wpList _ _ _ (Oper.mk none (Op.store 28 (.tmp 18) (.tmp 64)) _ _ _ _ :: _) _ _); refine wpList_store8 rfl 28 (.tmp 18) (.tmp 64) rfl wr.heap.size rfl x rfl agg44 hxl _ _ bS (by rw [size_arr8, len_z8']) ?_; intro v12 hb12 q12 s12; have hw12 : Below wr.heap.size wr v12 := (below_alloc _ _).grown q12 (by simp) (fun k hk => by cases hk; exact Nat.le_refl _); have d71 : v12.cell? ⟨b2, off2 + i, none⟩ = some (.int .u8 yi) := (hw12.cell (p := ⟨b2, off2 + i, none⟩) (show b2 < wr.heap.size by omega)).trans d71r; have dU : v12.cell? ⟨gU, 0, none⟩ = some (.slice (some ⟨gu, 0, none⟩) 32 c9) := (by rw [(BUW.out.below hw12 BUW.out.lt).cell]; rfl))
          | fail)
          exact ⟨⟨i + 1, U, by omega, by go_num, OwS.below HU.out hw12, HF.out.trans (Fr.below hw12), HW.out.trans (hw12.mono HW.out.size)⟩, by simp [intOf]; omega⟩
        · have hi32 : ¬ (i : Int) < 32 := by omega
          go_wp2_with (first
          | ((with_reducible show wpList _ _ _ (Oper.mk (some 64) (Op.load 28 _) _ _ _ _ :: _) _ _); refine wpList_load_agg (by rfl) 28 (.tmp 63) rfl g11 (i * 32) rfl (arr8 x) agg44 (by rw [size_arr8, hxl]) (fun j v hv => dX.out j v hv) ?_)
          | ((with_reducible show wpList _ _ _ (Oper.mk (some 18) (Op.alloc 28) _ _ _ _ :: _) _ _); refine wpList_alloc_agg rfl 28 rfl (arr8 (z8' 32)) zero44 ?_)
          | ((with_reducible show wpList _ _ _ (Oper.mk none (Op.store 28 (.tmp 18) (.tmp 64)) _ _ _ _ :: _) _ _); refine wpList_store8 rfl 28 (.tmp 18) (.tmp 64) rfl wr.heap.size rfl x rfl agg44 hxl _ _ bS (by rw [size_arr8, len_z8']) ?_; intro v12 hb12 q12 s12; have hw12 : Below wr.heap.size wr v12 := (below_alloc _ _).grown q12 (by simp) (fun k hk => by cases hk; exact Nat.le_refl _); have d71 : v12.cell? ⟨b2, off2 + i, none⟩ = some (.int .u8 yi) := (hw12.cell (p := ⟨b2, off2 + i, none⟩) (show b2 < wr.heap.size by omega)).trans d71r; have dU : v12.cell? ⟨gU, 0, none⟩ = some (.slice (some ⟨gu, 0, none⟩) 32 c9) := (by rw [(BUW.out.below hw12 BUW.out.lt).cell]; rfl))
          | fail)
          exact ⟨⟨i + 1, U, by omega, by go_num, OwS.below HU.out hw12, HF.out.trans (Fr.below hw12), HW.out.trans (hw12.mono HW.out.size)⟩, by simp [intOf]; omega⟩
    · obtain rfl : i = n2 := by omega
      have hil : ¬ (i : Int) < (i : Int) := by omega
      have BKr := Lib.hid (hF.blk BK1.out (by simp; omega))
      have BRr := Lib.hid (hF.blk BR1.out (by simp; omega))
      have BTr := Lib.hid (hF.blk BT1.out (by simp; omega))
      have BIr := Lib.hid (hF.blk BI1.out (by simp; omega))
      have BOr := Lib.hid (hF.blk BO1.out (by simp; omega))
      have BUr := Lib.hid (hF.blk BU1.out (by simp; omega))
      have hTr : OwS wr v4.heap.size (some ⟨g5, 0, none⟩) 32 c5 T := Row.frl HT1.out hF (fun _ g e => by cases e; simp; omega)
      have hLr : OwS wr v.heap.size (some ⟨g4, 0, none⟩) 16 c4 L := Row.frl HL1.out hF (fun _ g e => by cases e; simp; omega)
      have HTr := Lib.hid hTr
      have HLr := Lib.hid hLr
      have HUr := Lib.hid hU
      have hUl : U.length = 32 * 32 := hU.len
      have HWr := Lib.hid hw
      have KR := Lib.hid ((K0.out.below hw).more hzw)
      have dLK := Lib.hid (OwS.elt_ hLr (i := kk) hkn)
      have dR1 := Lib.hid (OwS.elt_ hTr (i := 1) (by omega))
      have hlk := len_elt hLl hkn
      have hR1 := len_elt hTl (i := 1) (by omega)
      have hg4r := OwS.lt hLr (by omega)
      have hg5r := OwS.lt hTr (by omega)
      obtain ⟨lk, hlke⟩ : ∃ x, x = elt L kk := ⟨_, rfl⟩
      obtain ⟨R1, hR1e⟩ : ∃ x, x = elt T 1 := ⟨_, rfl⟩
      rw [← hlke] at dLK hlk
      rw [← hR1e] at dR1 hR1
      have HLKE := Lib.hid hlke
      have HR1E := Lib.hid hR1e
      have hwrz : w.heap.size ≤ wr.heap.size := by omega
      clear hTr hLr hU hw hF hlke hR1e BK1 BR1 BT1 BI1 BO1 BU1 HT1 HL1 HU1 HX1 HV1
      go_wp2_with fail
      cases hE : (O == lk) with
      | true =>
        have HE := Lib.hid hE
        clear hE
        refine wp_region_rel (fun W W' => Below W.heap.size W W') (fun W => Below wr.heap.size wr W)
          [Det (.agg (arr8 O)), Det (.slice (some ⟨g4, 0, none⟩) 16 c4), Det (.int .i64 (kk : Int)), Det (.pointer (some ⟨g4, kk * 32, none⟩)), Det (.agg (arr8 lk)), Det (.bool true), Det (.bool true), Det undef, Det undef, Det undef, Det undef, Det undef, Det undef, Det undef, Det undef, Det undef, Det (.bool true)]
          [[], [], [], [(1, some 80), (2, some 81)], [(3, some 82)], [(0, some 79), (4, some 83)], [(5, some 84)], [(6, some 85)], [(6, some 85)], [(6, some 85)], [(9, some 88), (6, some 85)], [(10, some 89), (6, some 85)], [(6, some 85)], [(6, some 85)], [(7, some 86), (8, some 87), (11, some 90), (12, some 91), (13, some 92), (6, some 85)], [(14, some 93), (6, some 85)], [(6, some 85), (15, some 94)]]
          [[], [], [], [1, 2], [1, 2, 3], [0, 1, 2, 3, 4], [0, 1, 2, 3, 4, 5], [0, 1, 2, 3, 4, 5, 6], [0, 1, 2, 3, 4, 5, 6], [0, 1, 2, 3, 4, 5, 6], [0, 1, 2, 3, 4, 5, 6, 9], [0, 1, 2, 3, 4, 5, 6, 9, 10], [0, 1, 2, 3, 4, 5, 6], [0, 1, 2, 3, 4, 5, 6], [0, 1, 2, 3, 4, 5, 6, 7, 8, 9, 10, 11, 12, 13], [0, 1, 2, 3, 4, 5, 6, 7, 8, 9, 10, 11, 12, 13, 14], [0, 1, 2, 3, 4, 5, 6, 7, 8, 9, 10, 11, 12, 13, 14, 15]]
          [(0, some 79), (1, some 80), (2, some 81), (3, some 82), (4, some 83), (5, some 84), (6, some 85), (7, some 86), (8, some 87), (9, some 88), (10, some 89), (11, some 90), (12, some 91), (13, some 92), (14, some 93), (15, some 94), (16, some 95)] (by kernel_rfl) (by kernel_rfl) (fun W W' h1 h2 => h1.trans (h2.mono h1.size)) ((Below.refl _ _).drew) ?_ ?_ ?_
        · exact (AllMono.cons Det.later (AllMono.cons Det.later (AllMono.cons Det.later (AllMono.cons Det.later (AllMono.cons Det.later (AllMono.cons Det.later (AllMono.cons Det.later (AllMono.cons Det.later (AllMono.cons Det.later (AllMono.cons Det.later (AllMono.cons Det.later (AllMono.cons Det.later (AllMono.cons Det.later (AllMono.cons Det.later (AllMono.cons Det.later (AllMono.cons Det.later (AllMono.cons Det.later AllMono.nil)))))))))))))))))
        · refine AllOb.cons ?_ (AllOb.cons ?_ (AllOb.cons ?_ (AllOb.cons ?_ (AllOb.cons ?_ (AllOb.cons ?_ (AllOb.cons ?_ (AllOb.cons ?_ (AllOb.cons ?_ (AllOb.cons ?_ (AllOb.cons ?_ (AllOb.cons ?_ (AllOb.cons ?_ (AllOb.cons ?_ (AllOb.cons ?_ (AllOb.cons ?_ (AllOb.cons ?_ (AllOb.nil)))))))))))))))))
          · intro uF W hC' hU aF hF
            have hC : Below wr.heap.size wr W := hC'
            clear hC'
            simp only [puts] at hF
            subst hF
            go_wp2_with (((with_reducible show wpList _ _ _ (Oper.mk _ (Op.load _ _) _ _ _ _ :: _) _ _); refine wpList_load_whole (by rfl) 28 (.tmp 15) rfl gO rfl (arr8 O) agg44 (by rw [size_arr8, hlo]) 28 (BOr.out.below hC BOr.out.lt) ?_))
            exact ⟨rfl, rfl, (Below.refl _ _), rfl⟩
          · intro uF W hC' hU aF hF
            have hC : Below wr.heap.size wr W := hC'
            clear hC'
            simp only [puts] at hF
            subst hF
            go_wp2_with (fail)
            exact ⟨rfl, rfl, (Below.refl _ _), rfl⟩
          · intro uF W hC' hU aF hF
            have hC : Below wr.heap.size wr W := hC'
            clear hC'
            simp only [puts] at hF
            subst hF
            have d1 : W.cell? ⟨gI, 0, none⟩ = some (.int .i64 (kk : Int)) := by rw [(BIr.out.below hC BIr.out.lt).cell]; rfl
            go_wp2_with (fail)
            exact ⟨rfl, rfl, (Below.refl _ _), rfl⟩
          · intro uF W hC' hU aF hF
            have hC : Below wr.heap.size wr W := hC'
            clear hC'
            have h80 : (Det (.slice (some ⟨g4, 0, none⟩) 16 c4)) (uF 1) W := hU.1
            have h81 : (Det (.int .i64 (kk : Int))) (uF 2) W := hU.2.1
            clear hU
            simp only [puts, Act.put, List.setIfInBounds_toArray, List.set_cons_zero, List.set_cons_succ] at hF
            generalize uF 1 = x80 at h80 hF
            generalize uF 2 = x81 at h81 hF
            obtain rfl : x80 = (.slice (some ⟨g4, 0, none⟩) 16 c4) := h80
            obtain rfl : x81 = (.int .i64 (kk : Int)) := h81
            subst hF
            go_wp2_with (fail)
            exact ⟨rfl, rfl, (Below.refl _ _), rfl⟩
          · intro uF W hC' hU aF hF
            have hC : Below wr.heap.size wr W := hC'
            clear hC'
            have h82 : (Det (.pointer (some ⟨g4, kk * 32, none⟩))) (uF 3) W := hU.1
            clear hU
            simp only [puts, Act.put, List.setIfInBounds_toArray, List.set_cons_zero, List.set_cons_succ] at hF
            generalize uF 3 = x82 at h82 hF
            obtain rfl : x82 = (.pointer (some ⟨g4, kk * 32, none⟩)) := h82
            subst hF
            go_wp2_with (((with_reducible show wpList _ _ _ (Oper.mk _ (Op.load _ _) _ _ _ _ :: _) _ _); refine wpList_load_agg (by rfl) 28 (.tmp 82) rfl g4 (kk * 32) rfl (arr8 lk) agg44 (by rw [size_arr8, hlk]) (fun j v hv => (hC.cell (show (⟨g4, kk * 32 + j, none⟩ : Addr).block < wr.heap.size from hg4r)).trans (dLK.out j v hv)) ?_))
            exact ⟨rfl, rfl, (Below.refl _ _), rfl⟩
          · intro uF W hC' hU aF hF
            have hC : Below wr.heap.size wr W := hC'
            clear hC'
            have h79 : (Det (.agg (arr8 O))) (uF 0) W := hU.1
            have h83 : (Det (.agg (arr8 lk))) (uF 4) W := hU.2.1
            clear hU
            simp only [puts, Act.put, List.setIfInBounds_toArray, List.set_cons_zero, List.set_cons_succ] at hF
            generalize uF 0 = x79 at h79 hF
            generalize uF 4 = x83 at h83 hF
            obtain rfl : x79 = (.agg (arr8 O)) := h79
            obtain rfl : x83 = (.agg (arr8 lk)) := h83
            subst hF
            have he := eq44 O lk hlo hlk true HE.out
            have hg := guard44
            go_wp2_with (fail)
            exact ⟨rfl, rfl, (Below.refl _ _), rfl⟩
          · intro uF W hC' hU aF hF
            have hC : Below wr.heap.size wr W := hC'
            clear hC'
            have h84 : (Det (.bool true)) (uF 5) W := hU.1
            clear hU
            simp only [puts, Act.put, List.setIfInBounds_toArray, List.set_cons_zero, List.set_cons_succ] at hF
            generalize uF 5 = x84 at h84 hF
            obtain rfl : x84 = (.bool true) := h84
            subst hF
            go_wp2_with (fail)
            exact ⟨rfl, rfl, (Below.refl _ _), rfl⟩
          · intro uF W hC' hU aF hF
            have hC : Below wr.heap.size wr W := hC'
            clear hC'
            have h85 : (Det (.bool true)) (uF 6) W := hU.1
            clear hU
            simp only [puts, Act.put, List.setIfInBounds_toArray, List.set_cons_zero, List.set_cons_succ] at hF
            generalize uF 6 = x85 at h85 hF
            obtain rfl : x85 = (.bool true) := h85
            subst hF
            go_wp2_with (fail)
            exact ⟨rfl, rfl, (Below.refl _ _), rfl⟩
          · intro uF W hC' hU aF hF
            have hC : Below wr.heap.size wr W := hC'
            clear hC'
            have h85 : (Det (.bool true)) (uF 6) W := hU.1
            clear hU
            simp only [puts, Act.put, List.setIfInBounds_toArray, List.set_cons_zero, List.set_cons_succ] at hF
            generalize uF 6 = x85 at h85 hF
            obtain rfl : x85 = (.bool true) := h85
            subst hF
            go_wp2_with (fail)
            exact ⟨rfl, rfl, (Below.refl _ _), rfl⟩
          · intro uF W hC' hU aF hF
            have hC : Below wr.heap.size wr W := hC'
            clear hC'
            have h85 : (Det (.bool true)) (uF 6) W := hU.1
            clear hU
            simp only [puts, Act.put, List.setIfInBounds_toArray, List.set_cons_zero, List.set_cons_succ] at hF
            generalize uF 6 = x85 at h85 hF
            obtain rfl : x85 = (.bool true) := h85
            subst hF
            go_wp2_with (fail)
            exact ⟨rfl, rfl, (Below.refl _ _), rfl⟩
          · intro uF W hC' hU aF hF
            have hC : Below wr.heap.size wr W := hC'
            clear hC'
            have h88 : (Det undef) (uF 9) W := hU.1
            have h85 : (Det (.bool true)) (uF 6) W := hU.2.1
            clear hU
            simp only [puts, Act.put, List.setIfInBounds_toArray, List.set_cons_zero, List.set_cons_succ] at hF
            generalize uF 9 = x88 at h88 hF
            generalize uF 6 = x85 at h85 hF
            obtain rfl : x88 = undef := h88
            obtain rfl : x85 = (.bool true) := h85
            subst hF
            go_wp2_with (fail)
            exact ⟨rfl, rfl, (Below.refl _ _), rfl⟩
          · intro uF W hC' hU aF hF
            have hC : Below wr.heap.size wr W := hC'
            clear hC'
            have h89 : (Det undef) (uF 10) W := hU.1
            have h85 : (Det (.bool true)) (uF 6) W := hU.2.1
            clear hU
            simp only [puts, Act.put, List.setIfInBounds_toArray, List.set_cons_zero, List.set_cons_succ] at hF
            generalize uF 10 = x89 at h89 hF
            generalize uF 6 = x85 at h85 hF
            obtain rfl : x89 = undef := h89
            obtain rfl : x85 = (.bool true) := h85
            subst hF
            go_wp2_with (fail)
            exact ⟨rfl, rfl, (Below.refl _ _), rfl⟩
          · intro uF W hC' hU aF hF
            have hC : Below wr.heap.size wr W := hC'
            clear hC'
            have h85 : (Det (.bool true)) (uF 6) W := hU.1
            clear hU
            simp only [puts, Act.put, List.setIfInBounds_toArray, List.set_cons_zero, List.set_cons_succ] at hF
            generalize uF 6 = x85 at h85 hF
            obtain rfl : x85 = (.bool true) := h85
            subst hF
            go_wp2_with (fail)
            exact ⟨rfl, rfl, (Below.refl _ _), rfl⟩
          · intro uF W hC' hU aF hF
            have hC : Below wr.heap.size wr W := hC'
            clear hC'
            have h85 : (Det (.bool true)) (uF 6) W := hU.1
            clear hU
            simp only [puts, Act.put, List.setIfInBounds_toArray, List.set_cons_zero, List.set_cons_succ] at hF
            generalize uF 6 = x85 at h85 hF
            obtain rfl : x85 = (.bool true) := h85
            subst hF
            go_wp2_with (fail)
            exact ⟨rfl, rfl, (Below.refl _ _), rfl⟩
          · intro uF W hC' hU aF hF
            have hC : Below wr.heap.size wr W := hC'
            clear hC'
            have h86 : (Det undef) (uF 7) W := hU.1
            have h87 : (Det undef) (uF 8) W := hU.2.1
            have h90 : (Det undef) (uF 11) W := hU.2.2.1
            have h91 : (Det undef) (uF 12) W := hU.2.2.2.1
            have h92 : (Det undef) (uF 13) W := hU.2.2.2.2.1
            have h85 : (Det (.bool true)) (uF 6) W := hU.2.2.2.2.2.1
            clear hU
            simp only [puts, Act.put, List.setIfInBounds_toArray, List.set_cons_zero, List.set_cons_succ] at hF
            generalize uF 7 = x86 at h86 hF
            generalize uF 8 = x87 at h87 hF
            generalize uF 11 = x90 at h90 hF
            generalize uF 12 = x91 at h91 hF
            generalize uF 13 = x92 at h92 hF
            generalize uF 6 = x85 at h85 hF
            obtain rfl : x86 = undef := h86
            obtain rfl : x87 = undef := h87
            obtain rfl : x90 = undef := h90
            obtain rfl : x91 = undef := h91
            obtain rfl : x92 = undef := h92
            obtain rfl : x85 = (.bool true) := h85
            subst hF
            go_wp2_with (fail)
            exact ⟨rfl, rfl, (Below.refl _ _), rfl⟩
          · intro uF W hC' hU aF hF
            have hC : Below wr.heap.size wr W := hC'
            clear hC'
            have h93 : (Det undef) (uF 14) W := hU.1
            have h85 : (Det (.bool true)) (uF 6) W := hU.2.1
            clear hU
            simp only [puts, Act.put, List.setIfInBounds_toArray, List.set_cons_zero, List.set_cons_succ] at hF
            generalize uF 14 = x93 at h93 hF
            generalize uF 6 = x85 at h85 hF
            obtain rfl : x93 = undef := h93
            obtain rfl : x85 = (.bool true) := h85
            subst hF
            go_wp2_with (fail)
            exact ⟨rfl, rfl, (Below.refl _ _), rfl⟩
          · intro uF W hC' hU aF hF
            have hC : Below wr.heap.size wr W := hC'
            clear hC'
            have h85 : (Det (.bool true)) (uF 6) W := hU.1
            have h94 : (Det undef) (uF 15) W := hU.2.1
            clear hU
            simp only [puts, Act.put, List.setIfInBounds_toArray, List.set_cons_zero, List.set_cons_succ] at hF
            generalize uF 6 = x85 at h85 hF
            generalize uF 15 = x94 at h94 hF
            obtain rfl : x85 = (.bool true) := h85
            obtain rfl : x94 = undef := h94
            subst hF
            go_wp2_with (fail)
            exact ⟨rfl, rfl, (Below.refl _ _), rfl⟩
        intro uF W5 hC' hU aF hF
        have hCW5 : Below wr.heap.size wr W5 := hC'
        clear hC'
        have h95 : (Det (.bool true)) (uF 16) W5 := hU.2.2.2.2.2.2.2.2.2.2.2.2.2.2.2.2.1
        clear hU
        simp only [puts, Act.put, List.setIfInBounds_toArray, List.set_cons_zero, List.set_cons_succ] at hF
        generalize uF 0 = x79 at hF
        generalize uF 1 = x80 at hF
        generalize uF 2 = x81 at hF
        generalize uF 3 = x82 at hF
        generalize uF 4 = x83 at hF
        generalize uF 5 = x84 at hF
        generalize uF 6 = x85 at hF
        generalize uF 7 = x86 at hF
        generalize uF 8 = x87 at hF
        generalize uF 9 = x88 at hF
        generalize uF 10 = x89 at hF
        generalize uF 11 = x90 at hF
        generalize uF 12 = x91 at hF
        generalize uF 13 = x92 at hF
        generalize uF 14 = x93 at hF
        generalize uF 15 = x94 at hF
        generalize uF 16 = x95 at h95 hF
        obtain rfl : x95 = (.bool true) := h95
        subst hF
        have b5R := BRr.out.below hCW5 BRr.out.lt
        have dR : W5.cell? ⟨gR, 0, none⟩ = some (.bool false) := by rw [b5R.cell]; rfl
        have fR := b5R.frozen 0
        go_wp2_with fail
        have hb4' : Blk (W5.setCell ⟨gR, 0, none⟩ (.bool true)) gR 4 #[.bool true] := by simpa using b5R.set_ 0 (.bool true)
        refine ⟨_, res_bool rfl _ gR 4 true Try.underlying4 rfl hb4', rfl, ?_⟩
        exact ((hbv.trans (HWr.out.mono hz)).trans (hCW5.mono (by omega))).setCell (p := ⟨gR, 0, none⟩) (by show w.heap.size ≤ gR; omega) _
      | false =>
        have HE := Lib.hid hE
        clear hE
        cases hR : (elt (climbT key U (kk : Int) O) 1 == R1) with
        | false =>
          have HRR := Lib.hid hR
          clear hR
          refine wp_region_rel (fun W W' => Below W.heap.size W W') (fun W => Below wr.heap.size wr W)
            [Det (.agg (arr8 O)), Det (.slice (some ⟨g4, 0, none⟩) 16 c4), Det (.int .i64 (kk : Int)), Det (.pointer (some ⟨g4, kk * 32, none⟩)), Det (.agg (arr8 lk)), Det (.bool false), Det (.bool false), Det (.slice A0 n0 c0), Det (.slice (some ⟨gu, 0, none⟩) 32 c9), Det (.slice (some ⟨g5, 0, none⟩) 32 c5), Det (.pointer (some ⟨g5, 32, none⟩)), Det (.agg (arr8 R1)), Det (.int .i64 (kk : Int)), Det (.agg (arr8 O)), Det (.bool false), Det (.bool true), Det (.bool true)]
            [[], [], [], [(1, some 80), (2, some 81)], [(3, some 82)], [(0, some 79), (4, some 83)], [(5, some 84)], [(6, some 85)], [(6, some 85)], [(6, some 85)], [(9, some 88), (6, some 85)], [(10, some 89), (6, some 85)], [(6, some 85)], [(6, some 85)], [(7, some 86), (8, some 87), (11, some 90), (12, some 91), (13, some 92), (6, some 85)], [(14, some 93), (6, some 85)], [(6, some 85), (15, some 94)]]
            [[], [], [], [1, 2], [1, 2, 3], [0, 1, 2, 3, 4], [0, 1, 2, 3, 4, 5], [0, 1, 2, 3, 4, 5, 6], [0, 1, 2, 3, 4, 5, 6], [0, 1, 2, 3, 4, 5, 6], [0, 1, 2, 3, 4, 5, 6, 9], [0, 1, 2, 3, 4, 5, 6, 9, 10], [0, 1, 2, 3, 4, 5, 6], [0, 1, 2, 3, 4, 5, 6], [0, 1, 2, 3, 4, 5, 6, 7, 8, 9, 10, 11, 12, 13], [0, 1, 2, 3, 4, 5, 6, 7, 8, 9, 10, 11, 12, 13, 14], [0, 1, 2, 3, 4, 5, 6, 7, 8, 9, 10, 11, 12, 13, 14, 15]]
            [(0, some 79), (1, some 80), (2, some 81), (3, some 82), (4, some 83), (5, some 84), (6, some 85), (7, some 86), (8, some 87), (9, some 88), (10, some 89), (11, some 90), (12, some 91), (13, some 92), (14, some 93), (15, some 94), (16, some 95)] (by kernel_rfl) (by kernel_rfl) (fun W W' h1 h2 => h1.trans (h2.mono h1.size)) ((Below.refl _ _).drew) ?_ ?_ ?_
          · exact (AllMono.cons Det.later (AllMono.cons Det.later (AllMono.cons Det.later (AllMono.cons Det.later (AllMono.cons Det.later (AllMono.cons Det.later (AllMono.cons Det.later (AllMono.cons Det.later (AllMono.cons Det.later (AllMono.cons Det.later (AllMono.cons Det.later (AllMono.cons Det.later (AllMono.cons Det.later (AllMono.cons Det.later (AllMono.cons Det.later (AllMono.cons Det.later (AllMono.cons Det.later AllMono.nil)))))))))))))))))
          · refine AllOb.cons ?_ (AllOb.cons ?_ (AllOb.cons ?_ (AllOb.cons ?_ (AllOb.cons ?_ (AllOb.cons ?_ (AllOb.cons ?_ (AllOb.cons ?_ (AllOb.cons ?_ (AllOb.cons ?_ (AllOb.cons ?_ (AllOb.cons ?_ (AllOb.cons ?_ (AllOb.cons ?_ (AllOb.cons ?_ (AllOb.cons ?_ (AllOb.cons ?_ (AllOb.nil)))))))))))))))))
            · intro uF W hC' hU aF hF
              have hC : Below wr.heap.size wr W := hC'
              clear hC'
              simp only [puts] at hF
              subst hF
              go_wp2_with (((with_reducible show wpList _ _ _ (Oper.mk _ (Op.load _ _) _ _ _ _ :: _) _ _); refine wpList_load_whole (by rfl) 28 (.tmp 15) rfl gO rfl (arr8 O) agg44 (by rw [size_arr8, hlo]) 28 (BOr.out.below hC BOr.out.lt) ?_))
              exact ⟨rfl, rfl, (Below.refl _ _), rfl⟩
            · intro uF W hC' hU aF hF
              have hC : Below wr.heap.size wr W := hC'
              clear hC'
              simp only [puts] at hF
              subst hF
              go_wp2_with (fail)
              exact ⟨rfl, rfl, (Below.refl _ _), rfl⟩
            · intro uF W hC' hU aF hF
              have hC : Below wr.heap.size wr W := hC'
              clear hC'
              simp only [puts] at hF
              subst hF
              have d1 : W.cell? ⟨gI, 0, none⟩ = some (.int .i64 (kk : Int)) := by rw [(BIr.out.below hC BIr.out.lt).cell]; rfl
              go_wp2_with (fail)
              exact ⟨rfl, rfl, (Below.refl _ _), rfl⟩
            · intro uF W hC' hU aF hF
              have hC : Below wr.heap.size wr W := hC'
              clear hC'
              have h80 : (Det (.slice (some ⟨g4, 0, none⟩) 16 c4)) (uF 1) W := hU.1
              have h81 : (Det (.int .i64 (kk : Int))) (uF 2) W := hU.2.1
              clear hU
              simp only [puts, Act.put, List.setIfInBounds_toArray, List.set_cons_zero, List.set_cons_succ] at hF
              generalize uF 1 = x80 at h80 hF
              generalize uF 2 = x81 at h81 hF
              obtain rfl : x80 = (.slice (some ⟨g4, 0, none⟩) 16 c4) := h80
              obtain rfl : x81 = (.int .i64 (kk : Int)) := h81
              subst hF
              go_wp2_with (fail)
              exact ⟨rfl, rfl, (Below.refl _ _), rfl⟩
            · intro uF W hC' hU aF hF
              have hC : Below wr.heap.size wr W := hC'
              clear hC'
              have h82 : (Det (.pointer (some ⟨g4, kk * 32, none⟩))) (uF 3) W := hU.1
              clear hU
              simp only [puts, Act.put, List.setIfInBounds_toArray, List.set_cons_zero, List.set_cons_succ] at hF
              generalize uF 3 = x82 at h82 hF
              obtain rfl : x82 = (.pointer (some ⟨g4, kk * 32, none⟩)) := h82
              subst hF
              go_wp2_with (((with_reducible show wpList _ _ _ (Oper.mk _ (Op.load _ _) _ _ _ _ :: _) _ _); refine wpList_load_agg (by rfl) 28 (.tmp 82) rfl g4 (kk * 32) rfl (arr8 lk) agg44 (by rw [size_arr8, hlk]) (fun j v hv => (hC.cell (show (⟨g4, kk * 32 + j, none⟩ : Addr).block < wr.heap.size from hg4r)).trans (dLK.out j v hv)) ?_))
              exact ⟨rfl, rfl, (Below.refl _ _), rfl⟩
            · intro uF W hC' hU aF hF
              have hC : Below wr.heap.size wr W := hC'
              clear hC'
              have h79 : (Det (.agg (arr8 O))) (uF 0) W := hU.1
              have h83 : (Det (.agg (arr8 lk))) (uF 4) W := hU.2.1
              clear hU
              simp only [puts, Act.put, List.setIfInBounds_toArray, List.set_cons_zero, List.set_cons_succ] at hF
              generalize uF 0 = x79 at h79 hF
              generalize uF 4 = x83 at h83 hF
              obtain rfl : x79 = (.agg (arr8 O)) := h79
              obtain rfl : x83 = (.agg (arr8 lk)) := h83
              subst hF
              have he := eq44 O lk hlo hlk false HE.out
              have hg := guard44
              go_wp2_with (fail)
              exact ⟨rfl, rfl, (Below.refl _ _), rfl⟩
            · intro uF W hC' hU aF hF
              have hC : Below wr.heap.size wr W := hC'
              clear hC'
              have h84 : (Det (.bool false)) (uF 5) W := hU.1
              clear hU
              simp only [puts, Act.put, List.setIfInBounds_toArray, List.set_cons_zero, List.set_cons_succ] at hF
              generalize uF 5 = x84 at h84 hF
              obtain rfl : x84 = (.bool false) := h84
              subst hF
              go_wp2_with (fail)
              exact ⟨rfl, rfl, (Below.refl _ _), rfl⟩
            · intro uF W hC' hU aF hF
              have hC : Below wr.heap.size wr W := hC'
              clear hC'
              have h85 : (Det (.bool false)) (uF 6) W := hU.1
              clear hU
              simp only [puts, Act.put, List.setIfInBounds_toArray, List.set_cons_zero, List.set_cons_succ] at hF
              generalize uF 6 = x85 at h85 hF
              obtain rfl : x85 = (.bool false) := h85
              subst hF
              have d1 : W.cell? ⟨gK, 0, none⟩ = some (.slice A0 n0 c0) := by rw [(BKr.out.below hC BKr.out.lt).cell]; rfl
              go_wp2_with (fail)
              exact ⟨rfl, rfl, (Below.refl _ _), rfl⟩
            · intro uF W hC' hU aF hF
              have hC : Below wr.heap.size wr W := hC'
              clear hC'
              have h85 : (Det (.bool false)) (uF 6) W := hU.1
              clear hU
              simp only [puts, Act.put, List.setIfInBounds_toArray, List.set_cons_zero, List.set_cons_succ] at hF
              generalize uF 6 = x85 at h85 hF
              obtain rfl : x85 = (.bool false) := h85
              subst hF
              have d1 : W.cell? ⟨gU, 0, none⟩ = some (.slice (some ⟨gu, 0, none⟩) 32 c9) := by rw [(BUr.out.below hC BUr.out.lt).cell]; rfl
              go_wp2_with (fail)
              exact ⟨rfl, rfl, (Below.refl _ _), rfl⟩
            · intro uF W hC' hU aF hF
              have hC : Below wr.heap.size wr W := hC'
              clear hC'
              have h85 : (Det (.bool false)) (uF 6) W := hU.1
              clear hU
              simp only [puts, Act.put, List.setIfInBounds_toArray, List.set_cons_zero, List.set_cons_succ] at hF
              generalize uF 6 = x85 at h85 hF
              obtain rfl : x85 = (.bool false) := h85
              subst hF
              have d1 : W.cell? ⟨gT, 0, none⟩ = some (.slice (some ⟨g5, 0, none⟩) 32 c5) := by rw [(BTr.out.below hC BTr.out.lt).cell]; rfl
              go_wp2_with (fail)
              exact ⟨rfl, rfl, (Below.refl _ _), rfl⟩
            · intro uF W hC' hU aF hF
              have hC : Below wr.heap.size wr W := hC'
              clear hC'
              have h88 : (Det (.slice (some ⟨g5, 0, none⟩) 32 c5)) (uF 9) W := hU.1
              have h85 : (Det (.bool false)) (uF 6) W := hU.2.1
              clear hU
              simp only [puts, Act.put, List.setIfInBounds_toArray, List.set_cons_zero, List.set_cons_succ] at hF
              generalize uF 9 = x88 at h88 hF
              generalize uF 6 = x85 at h85 hF
              obtain rfl : x88 = (.slice (some ⟨g5, 0, none⟩) 32 c5) := h88
              obtain rfl : x85 = (.bool false) := h85
              subst hF
              go_wp2_with (fail)
              exact ⟨rfl, rfl, (Below.refl _ _), rfl⟩
            · intro uF W hC' hU aF hF
              have hC : Below wr.heap.size wr W := hC'
              clear hC'
              have h89 : (Det (.pointer (some ⟨g5, 32, none⟩))) (uF 10) W := hU.1
              have h85 : (Det (.bool false)) (uF 6) W := hU.2.1
              clear hU
              simp only [puts, Act.put, List.setIfInBounds_toArray, List.set_cons_zero, List.set_cons_succ] at hF
              generalize uF 10 = x89 at h89 hF
              generalize uF 6 = x85 at h85 hF
              obtain rfl : x89 = (.pointer (some ⟨g5, 32, none⟩)) := h89
              obtain rfl : x85 = (.bool false) := h85
              subst hF
              go_wp2_with (((with_reducible show wpList _ _ _ (Oper.mk _ (Op.load _ _) _ _ _ _ :: _) _ _); refine wpList_load_agg (by rfl) 28 (.tmp 89) rfl g5 32 rfl (arr8 R1) agg44 (by rw [size_arr8, hR1]) (fun j v hv => (hC.cell (show (⟨g5, 32 + j, none⟩ : Addr).block < wr.heap.size from hg5r)).trans (dR1.out j v (by simpa using hv))) ?_))
              exact ⟨rfl, rfl, (Below.refl _ _), rfl⟩
            · intro uF W hC' hU aF hF
              have hC : Below wr.heap.size wr W := hC'
              clear hC'
              have h85 : (Det (.bool false)) (uF 6) W := hU.1
              clear hU
              simp only [puts, Act.put, List.setIfInBounds_toArray, List.set_cons_zero, List.set_cons_succ] at hF
              generalize uF 6 = x85 at h85 hF
              obtain rfl : x85 = (.bool false) := h85
              subst hF
              have d1 : W.cell? ⟨gI, 0, none⟩ = some (.int .i64 (kk : Int)) := by rw [(BIr.out.below hC BIr.out.lt).cell]; rfl
              go_wp2_with (fail)
              exact ⟨rfl, rfl, (Below.refl _ _), rfl⟩
            · intro uF W hC' hU aF hF
              have hC : Below wr.heap.size wr W := hC'
              clear hC'
              have h85 : (Det (.bool false)) (uF 6) W := hU.1
              clear hU
              simp only [puts, Act.put, List.setIfInBounds_toArray, List.set_cons_zero, List.set_cons_succ] at hF
              generalize uF 6 = x85 at h85 hF
              obtain rfl : x85 = (.bool false) := h85
              subst hF
              go_wp2_with (((with_reducible show wpList _ _ _ (Oper.mk _ (Op.load _ _) _ _ _ _ :: _) _ _); refine wpList_load_whole (by rfl) 28 (.tmp 15) rfl gO rfl (arr8 O) agg44 (by rw [size_arr8, hlo]) 28 (BOr.out.below hC BOr.out.lt) ?_))
              exact ⟨rfl, rfl, (Below.refl _ _), rfl⟩
            · intro uF W hC' hU aF hF
              have hC : Below wr.heap.size wr W := hC'
              clear hC'
              have h86 : (Det (.slice A0 n0 c0)) (uF 7) W := hU.1
              have h87 : (Det (.slice (some ⟨gu, 0, none⟩) 32 c9)) (uF 8) W := hU.2.1
              have h90 : (Det (.agg (arr8 R1))) (uF 11) W := hU.2.2.1
              have h91 : (Det (.int .i64 (kk : Int))) (uF 12) W := hU.2.2.2.1
              have h92 : (Det (.agg (arr8 O))) (uF 13) W := hU.2.2.2.2.1
              have h85 : (Det (.bool false)) (uF 6) W := hU.2.2.2.2.2.1
              clear hU
              simp only [puts, Act.put, List.setIfInBounds_toArray, List.set_cons_zero, List.set_cons_succ] at hF
              generalize uF 7 = x86 at h86 hF
              generalize uF 8 = x87 at h87 hF
              generalize uF 11 = x90 at h90 hF
              generalize uF 12 = x91 at h91 hF
              generalize uF 13 = x92 at h92 hF
              generalize uF 6 = x85 at h85 hF
              obtain rfl : x86 = (.slice A0 n0 c0) := h86
              obtain rfl : x87 = (.slice (some ⟨gu, 0, none⟩) 32 c9) := h87
              obtain rfl : x90 = (.agg (arr8 R1)) := h90
              obtain rfl : x91 = (.int .i64 (kk : Int)) := h91
              obtain rfl : x92 = (.agg (arr8 O)) := h92
              obtain rfl : x85 = (.bool false) := h85
              subst hF
              go_wp2_with ((go_at_call 25; refine (verify_c ((KR.out.below hC).more hC.size) (Nat.le_refl _) (by omega) ((OwS.below HUr.out hC).sl) (Nat.le_refl _) (kk : Int) (by omega) hlo hR1 false HRR.out).mono ?_; rintro e W1 ⟨rfl, hb⟩))
              exact ⟨rfl, rfl, hb, rfl⟩
            · intro uF W hC' hU aF hF
              have hC : Below wr.heap.size wr W := hC'
              clear hC'
              have h93 : (Det (.bool false)) (uF 14) W := hU.1
              have h85 : (Det (.bool false)) (uF 6) W := hU.2.1
              clear hU
              simp only [puts, Act.put, List.setIfInBounds_toArray, List.set_cons_zero, List.set_cons_succ] at hF
              generalize uF 14 = x93 at h93 hF
              generalize uF 6 = x85 at h85 hF
              obtain rfl : x93 = (.bool false) := h93
              obtain rfl : x85 = (.bool false) := h85
              subst hF
              go_wp2_with (fail)
              exact ⟨rfl, rfl, (Below.refl _ _), rfl⟩
            · intro uF W hC' hU aF hF
              have hC : Below wr.heap.size wr W := hC'
              clear hC'
              have h85 : (Det (.bool false)) (uF 6) W := hU.1
              have h94 : (Det (.bool true)) (uF 15) W := hU.2.1
              clear hU
              simp only [puts, Act.put, List.setIfInBounds_toArray, List.set_cons_zero, List.set_cons_succ] at hF
              generalize uF 6 = x85 at h85 hF
              generalize uF 15 = x94 at h94 hF
              obtain rfl : x85 = (.bool false) := h85
              obtain rfl : x94 = (.bool true) := h94
              subst hF
              go_wp2_with (fail)
              exact ⟨rfl, rfl, (Below.refl _ _), rfl⟩
          intro uF W5 hC' hU aF hF
          have hCW5 : Below wr.heap.size wr W5 := hC'
          clear hC'
          have h95 : (Det (.bool true)) (uF 16) W5 := hU.2.2.2.2.2.2.2.2.2.2.2.2.2.2.2.2.1
          clear hU
          simp only [puts, Act.put, List.setIfInBounds_toArray, List.set_cons_zero, List.set_cons_succ] at hF
          generalize uF 0 = x79 at hF
          generalize uF 1 = x80 at hF
          generalize uF 2 = x81 at hF
          generalize uF 3 = x82 at hF
          generalize uF 4 = x83 at hF
          generalize uF 5 = x84 at hF
          generalize uF 6 = x85 at hF
          generalize uF 7 = x86 at hF
          generalize uF 8 = x87 at hF
          generalize uF 9 = x88 at hF
          generalize uF 10 = x89 at hF
          generalize uF 11 = x90 at hF
          generalize uF 12 = x91 at hF
          generalize uF 13 = x92 at hF
          generalize uF 14 = x93 at hF
          generalize uF 15 = x94 at hF
          generalize uF 16 = x95 at h95 hF
          obtain rfl : x95 = (.bool true) := h95
          subst hF
          have b5R := BRr.out.below hCW5 BRr.out.lt
          have dR : W5.cell? ⟨gR, 0, none⟩ = some (.bool false) := by rw [b5R.cell]; rfl
          have fR := b5R.frozen 0
          go_wp2_with fail
          have hb4' : Blk (W5.setCell ⟨gR, 0, none⟩ (.bool true)) gR 4 #[.bool true] := by simpa using b5R.set_ 0 (.bool true)
          refine ⟨_, res_bool rfl _ gR 4 true Try.underlying4 rfl hb4', rfl, ?_⟩
          exact ((hbv.trans (HWr.out.mono hz)).trans (hCW5.mono (by omega))).setCell (p := ⟨gR, 0, none⟩) (by show w.heap.size ≤ gR; omega) _
        | true =>
          have HRR := Lib.hid hR
          clear hR
          refine wp_region_rel (fun W W' => Below W.heap.size W W') (fun W => Below wr.heap.size wr W)
            [Det (.agg (arr8 O)), Det (.slice (some ⟨g4, 0, none⟩) 16 c4), Det (.int .i64 (kk : Int)), Det (.pointer (some ⟨g4, kk * 32, none⟩)), Det (.agg (arr8 lk)), Det (.bool false), Det (.bool false), Det (.slice A0 n0 c0), Det (.slice (some ⟨gu, 0, none⟩) 32 c9), Det (.slice (some ⟨g5, 0, none⟩) 32 c5), Det (.pointer (some ⟨g5, 32, none⟩)), Det (.agg (arr8 R1)), Det (.int .i64 (kk : Int)), Det (.agg (arr8 O)), Det (.bool true), Det (.bool false), Det (.bool false)]
            [[], [], [], [(1, some 80), (2, some 81)], [(3, some 82)], [(0, some 79), (4, some 83)], [(5, some 84)], [(6, some 85)], [(6, some 85)], [(6, some 85)], [(9, some 88), (6, some 85)], [(10, some 89), (6, some 85)], [(6, some 85)], [(6, some 85)], [(7, some 86), (8, some 87), (11, some 90), (12, some 91), (13, some 92), (6, some 85)], [(14, some 93), (6, some 85)], [(6, some 85), (15, some 94)]]
            [[], [], [], [1, 2], [1, 2, 3], [0, 1, 2, 3, 4], [0, 1, 2, 3, 4, 5], [0, 1, 2, 3, 4, 5, 6], [0, 1, 2, 3, 4, 5, 6], [0, 1, 2, 3, 4, 5, 6], [0, 1, 2, 3, 4, 5, 6, 9], [0, 1, 2, 3, 4, 5, 6, 9, 10], [0, 1, 2, 3, 4, 5, 6], [0, 1, 2, 3, 4, 5, 6], [0, 1, 2, 3, 4, 5, 6, 7, 8, 9, 10, 11, 12, 13], [0, 1, 2, 3, 4, 5, 6, 7, 8, 9, 10, 11, 12, 13, 14], [0, 1, 2, 3, 4, 5, 6, 7, 8, 9, 10, 11, 12, 13, 14, 15]]
            [(0, some 79), (1, some 80), (2, some 81), (3, some 82), (4, some 83), (5, some 84), (6, some 85), (7, some 86), (8, some 87), (9, some 88), (10, some 89), (11, some 90), (12, some 91), (13, some 92), (14, some 93), (15, some 94), (16, some 95)] (by kernel_rfl) (by kernel_rfl) (fun W W' h1 h2 => h1.trans (h2.mono h1.size)) ((Below.refl _ _).drew) ?_ ?_ ?_
          · exact (AllMono.cons Det.later (AllMono.cons Det.later (AllMono.cons Det.later (AllMono.cons Det.later (AllMono.cons Det.later (AllMono.cons Det.later (AllMono.cons Det.later (AllMono.cons Det.later (AllMono.cons Det.later (AllMono.cons Det.later (AllMono.cons Det.later (AllMono.cons Det.later (AllMono.cons Det.later (AllMono.cons Det.later (AllMono.cons Det.later (AllMono.cons Det.later (AllMono.cons Det.later AllMono.nil)))))))))))))))))
          · refine AllOb.cons ?_ (AllOb.cons ?_ (AllOb.cons ?_ (AllOb.cons ?_ (AllOb.cons ?_ (AllOb.cons ?_ (AllOb.cons ?_ (AllOb.cons ?_ (AllOb.cons ?_ (AllOb.cons ?_ (AllOb.cons ?_ (AllOb.cons ?_ (AllOb.cons ?_ (AllOb.cons ?_ (AllOb.cons ?_ (AllOb.cons ?_ (AllOb.cons ?_ (AllOb.nil)))))))))))))))))
            · intro uF W hC' hU aF hF
              have hC : Below wr.heap.size wr W := hC'
              clear hC'
              simp only [puts] at hF
              subst hF
              go_wp2_with (((with_reducible show wpList _ _ _ (Oper.mk _ (Op.load _ _) _ _ _ _ :: _) _ _); refine wpList_load_whole (by rfl) 28 (.tmp 15) rfl gO rfl (arr8 O) agg44 (by rw [size_arr8, hlo]) 28 (BOr.out.below hC BOr.out.lt) ?_))
              exact ⟨rfl, rfl, (Below.refl _ _), rfl⟩
            · intro uF W hC' hU aF hF
              have hC : Below wr.heap.size wr W := hC'
              clear hC'
              simp only [puts] at hF
              subst hF
              go_wp2_with (fail)
              exact ⟨rfl, rfl, (Below.refl _ _), rfl⟩
            · intro uF W hC' hU aF hF
              have hC : Below wr.heap.size wr W := hC'
              clear hC'
              simp only [puts] at hF
              subst hF
              have d1 : W.cell? ⟨gI, 0, none⟩ = some (.int .i64 (kk : Int)) := by rw [(BIr.out.below hC BIr.out.lt).cell]; rfl
              go_wp2_with (fail)
              exact ⟨rfl, rfl, (Below.refl _ _), rfl⟩
            · intro uF W hC' hU aF hF
              have hC : Below wr.heap.size wr W := hC'
              clear hC'
              have h80 : (Det (.slice (some ⟨g4, 0, none⟩) 16 c4)) (uF 1) W := hU.1
              have h81 : (Det (.int .i64 (kk : Int))) (uF 2) W := hU.2.1
              clear hU
              simp only [puts, Act.put, List.setIfInBounds_toArray, List.set_cons_zero, List.set_cons_succ] at hF
              generalize uF 1 = x80 at h80 hF
              generalize uF 2 = x81 at h81 hF
              obtain rfl : x80 = (.slice (some ⟨g4, 0, none⟩) 16 c4) := h80
              obtain rfl : x81 = (.int .i64 (kk : Int)) := h81
              subst hF
              go_wp2_with (fail)
              exact ⟨rfl, rfl, (Below.refl _ _), rfl⟩
            · intro uF W hC' hU aF hF
              have hC : Below wr.heap.size wr W := hC'
              clear hC'
              have h82 : (Det (.pointer (some ⟨g4, kk * 32, none⟩))) (uF 3) W := hU.1
              clear hU
              simp only [puts, Act.put, List.setIfInBounds_toArray, List.set_cons_zero, List.set_cons_succ] at hF
              generalize uF 3 = x82 at h82 hF
              obtain rfl : x82 = (.pointer (some ⟨g4, kk * 32, none⟩)) := h82
              subst hF
              go_wp2_with (((with_reducible show wpList _ _ _ (Oper.mk _ (Op.load _ _) _ _ _ _ :: _) _ _); refine wpList_load_agg (by rfl) 28 (.tmp 82) rfl g4 (kk * 32) rfl (arr8 lk) agg44 (by rw [size_arr8, hlk]) (fun j v hv => (hC.cell (show (⟨g4, kk * 32 + j, none⟩ : Addr).block < wr.heap.size from hg4r)).trans (dLK.out j v hv)) ?_))
              exact ⟨rfl, rfl, (Below.refl _ _), rfl⟩
            · intro uF W hC' hU aF hF
              have hC : Below wr.heap.size wr W := hC'
              clear hC'
              have h79 : (Det (.agg (arr8 O))) (uF 0) W := hU.1
              have h83 : (Det (.agg (arr8 lk))) (uF 4) W := hU.2.1
              clear hU
              simp only [puts, Act.put, List.setIfInBounds_toArray, List.set_cons_zero, List.set_cons_succ] at hF
              generalize uF 0 = x79 at h79 hF
              generalize uF 4 = x83 at h83 hF
              obtain rfl : x79 = (.agg (arr8 O)) := h79
              obtain rfl : x83 = (.agg (arr8 lk)) := h83
              subst hF
              have he := eq44 O lk hlo hlk false HE.out
              have hg := guard44
              go_wp2_with (fail)
              exact ⟨rfl, rfl, (Below.refl _ _), rfl⟩
            · intro uF W hC' hU aF hF
              have hC : Below wr.heap.size wr W := hC'
              clear hC'
              have h84 : (Det (.bool false)) (uF 5) W := hU.1
              clear hU
              simp only [puts, Act.put, List.setIfInBounds_toArray, List.set_cons_zero, List.set_cons_succ] at hF
              generalize uF 5 = x84 at h84 hF
              obtain rfl : x84 = (.bool false) := h84
              subst hF
              go_wp2_with (fail)
              exact ⟨rfl, rfl, (Below.refl _ _), rfl⟩
            · intro uF W hC' hU aF hF
              have hC : Below wr.heap.size wr W := hC'
              clear hC'
              have h85 : (Det (.bool false)) (uF 6) W := hU.1
              clear hU
              simp only [puts, Act.put, List.setIfInBounds_toArray, List.set_cons_zero, List.set_cons_succ] at hF
              generalize uF 6 = x85 at h85 hF
              obtain rfl : x85 = (.bool false) := h85
              subst hF
              have d1 : W.cell? ⟨gK, 0, none⟩ = some (.slice A0 n0 c0) := by rw [(BKr.out.below hC BKr.out.lt).cell]; rfl
              go_wp2_with (fail)
              exact ⟨rfl, rfl, (Below.refl _ _), rfl⟩
            · intro uF W hC' hU aF hF
              have hC : Below wr.heap.size wr W := hC'
              clear hC'
              have h85 : (Det (.bool false)) (uF 6) W := hU.1
              clear hU
              simp only [puts, Act.put, List.setIfInBounds_toArray, List.set_cons_zero, List.set_cons_succ] at hF
              generalize uF 6 = x85 at h85 hF
              obtain rfl : x85 = (.bool false) := h85
              subst hF
              have d1 : W.cell? ⟨gU, 0, none⟩ = some (.slice (some ⟨gu, 0, none⟩) 32 c9) := by rw [(BUr.out.below hC BUr.out.lt).cell]; rfl
              go_wp2_with (fail)
              exact ⟨rfl, rfl, (Below.refl _ _), rfl⟩
            · intro uF W hC' hU aF hF
              have hC : Below wr.heap.size wr W := hC'
              clear hC'
              have h85 : (Det (.bool false)) (uF 6) W := hU.1
              clear hU
              simp only [puts, Act.put, List.setIfInBounds_toArray, List.set_cons_zero, List.set_cons_succ] at hF
              generalize uF 6 = x85 at h85 hF
              obtain rfl : x85 = (.bool false) := h85
              subst hF
              have d1 : W.cell? ⟨gT, 0, none⟩ = some (.slice (some ⟨g5, 0, none⟩) 32 c5) := by rw [(BTr.out.below hC BTr.out.lt).cell]; rfl
              go_wp2_with (fail)
              exact ⟨rfl, rfl, (Below.refl _ _), rfl⟩
            · intro uF W hC' hU aF hF
              have hC : Below wr.heap.size wr W := hC'
              clear hC'
              have h88 : (Det (.slice (some ⟨g5, 0, none⟩) 32 c5)) (uF 9) W := hU.1
              have h85 : (Det (.bool false)) (uF 6) W := hU.2.1
              clear hU
              simp only [puts, Act.put, List.setIfInBounds_toArray, List.set_cons_zero, List.set_cons_succ] at hF
              generalize uF 9 = x88 at h88 hF
              generalize uF 6 = x85 at h85 hF
              obtain rfl : x88 = (.slice (some ⟨g5, 0, none⟩) 32 c5) := h88
              obtain rfl : x85 = (.bool false) := h85
              subst hF
              go_wp2_with (fail)
              exact ⟨rfl, rfl, (Below.refl _ _), rfl⟩
            · intro uF W hC' hU aF hF
              have hC : Below wr.heap.size wr W := hC'
              clear hC'
              have h89 : (Det (.pointer (some ⟨g5, 32, none⟩))) (uF 10) W := hU.1
              have h85 : (Det (.bool false)) (uF 6) W := hU.2.1
              clear hU
              simp only [puts, Act.put, List.setIfInBounds_toArray, List.set_cons_zero, List.set_cons_succ] at hF
              generalize uF 10 = x89 at h89 hF
              generalize uF 6 = x85 at h85 hF
              obtain rfl : x89 = (.pointer (some ⟨g5, 32, none⟩)) := h89
              obtain rfl : x85 = (.bool false) := h85
              subst hF
              go_wp2_with (((with_reducible show wpList _ _ _ (Oper.mk _ (Op.load _ _) _ _ _ _ :: _) _ _); refine wpList_load_agg (by rfl) 28 (.tmp 89) rfl g5 32 rfl (arr8 R1) agg44 (by rw [size_arr8, hR1]) (fun j v hv => (hC.cell (show (⟨g5, 32 + j, none⟩ : Addr).block < wr.heap.size from hg5r)).trans (dR1.out j v (by simpa using hv))) ?_))
              exact ⟨rfl, rfl, (Below.refl _ _), rfl⟩
            · intro uF W hC' hU aF hF
              have hC : Below wr.heap.size wr W := hC'
              clear hC'
              have h85 : (Det (.bool false)) (uF 6) W := hU.1
              clear hU
              simp only [puts, Act.put, List.setIfInBounds_toArray, List.set_cons_zero, List.set_cons_succ] at hF
              generalize uF 6 = x85 at h85 hF
              obtain rfl : x85 = (.bool false) := h85
              subst hF
              have d1 : W.cell? ⟨gI, 0, none⟩ = some (.int .i64 (kk : Int)) := by rw [(BIr.out.below hC BIr.out.lt).cell]; rfl
              go_wp2_with (fail)
              exact ⟨rfl, rfl, (Below.refl _ _), rfl⟩
            · intro uF W hC' hU aF hF
              have hC : Below wr.heap.size wr W := hC'
              clear hC'
              have h85 : (Det (.bool false)) (uF 6) W := hU.1
              clear hU
              simp only [puts, Act.put, List.setIfInBounds_toArray, List.set_cons_zero, List.set_cons_succ] at hF
              generalize uF 6 = x85 at h85 hF
              obtain rfl : x85 = (.bool false) := h85
              subst hF
              go_wp2_with (((with_reducible show wpList _ _ _ (Oper.mk _ (Op.load _ _) _ _ _ _ :: _) _ _); refine wpList_load_whole (by rfl) 28 (.tmp 15) rfl gO rfl (arr8 O) agg44 (by rw [size_arr8, hlo]) 28 (BOr.out.below hC BOr.out.lt) ?_))
              exact ⟨rfl, rfl, (Below.refl _ _), rfl⟩
            · intro uF W hC' hU aF hF
              have hC : Below wr.heap.size wr W := hC'
              clear hC'
              have h86 : (Det (.slice A0 n0 c0)) (uF 7) W := hU.1
              have h87 : (Det (.slice (some ⟨gu, 0, none⟩) 32 c9)) (uF 8) W := hU.2.1
              have h90 : (Det (.agg (arr8 R1))) (uF 11) W := hU.2.2.1
              have h91 : (Det (.int .i64 (kk : Int))) (uF 12) W := hU.2.2.2.1
              have h92 : (Det (.agg (arr8 O))) (uF 13) W := hU.2.2.2.2.1
              have h85 : (Det (.bool false)) (uF 6) W := hU.2.2.2.2.2.1
              clear hU
              simp only [puts, Act.put, List.setIfInBounds_toArray, List.set_cons_zero, List.set_cons_succ] at hF
              generalize uF 7 = x86 at h86 hF
              generalize uF 8 = x87 at h87 hF
              generalize uF 11 = x90 at h90 hF
              generalize uF 12 = x91 at h91 hF
              generalize uF 13 = x92 at h92 hF
              generalize uF 6 = x85 at h85 hF
              obtain rfl : x86 = (.slice A0 n0 c0) := h86
              obtain rfl : x87 = (.slice (some ⟨gu, 0, none⟩) 32 c9) := h87
              obtain rfl : x90 = (.agg (arr8 R1)) := h90
              obtain rfl : x91 = (.int .i64 (kk : Int)) := h91
              obtain rfl : x92 = (.agg (arr8 O)) := h92
              obtain rfl : x85 = (.bool false) := h85
              subst hF
              go_wp2_with ((go_at_call 25; refine (verify_c ((KR.out.below hC).more hC.size) (Nat.le_refl _) (by omega) ((OwS.below HUr.out hC).sl) (Nat.le_refl _) (kk : Int) (by omega) hlo hR1 true HRR.out).mono ?_; rintro e W1 ⟨rfl, hb⟩))
              exact ⟨rfl, rfl, hb, rfl⟩
            · intro uF W hC' hU aF hF
              have hC : Below wr.heap.size wr W := hC'
              clear hC'
              have h93 : (Det (.bool true)) (uF 14) W := hU.1
              have h85 : (Det (.bool false)) (uF 6) W := hU.2.1
              clear hU
              simp only [puts, Act.put, List.setIfInBounds_toArray, List.set_cons_zero, List.set_cons_succ] at hF
              generalize uF 14 = x93 at h93 hF
              generalize uF 6 = x85 at h85 hF
              obtain rfl : x93 = (.bool true) := h93
              obtain rfl : x85 = (.bool false) := h85
              subst hF
              go_wp2_with (fail)
              exact ⟨rfl, rfl, (Below.refl _ _), rfl⟩
            · intro uF W hC' hU aF hF
              have hC : Below wr.heap.size wr W := hC'
              clear hC'
              have h85 : (Det (.bool false)) (uF 6) W := hU.1
              have h94 : (Det (.bool false)) (uF 15) W := hU.2.1
              clear hU
              simp only [puts, Act.put, List.setIfInBounds_toArray, List.set_cons_zero, List.set_cons_succ] at hF
              generalize uF 6 = x85 at h85 hF
              generalize uF 15 = x94 at h94 hF
              obtain rfl : x85 = (.bool false) := h85
              obtain rfl : x94 = (.bool false) := h94
              subst hF
              go_wp2_with (fail)
              exact ⟨rfl, rfl, (Below.refl _ _), rfl⟩
          intro uF W5 hC' hU aF hF
          have hCW5 : Below wr.heap.size wr W5 := hC'
          clear hC'
          have h95 : (Det (.bool false)) (uF 16) W5 := hU.2.2.2.2.2.2.2.2.2.2.2.2.2.2.2.2.1
          clear hU
          simp only [puts, Act.put, List.setIfInBounds_toArray, List.set_cons_zero, List.set_cons_succ] at hF
          generalize uF 0 = x79 at hF
          generalize uF 1 = x80 at hF
          generalize uF 2 = x81 at hF
          generalize uF 3 = x82 at hF
          generalize uF 4 = x83 at hF
          generalize uF 5 = x84 at hF
          generalize uF 6 = x85 at hF
          generalize uF 7 = x86 at hF
          generalize uF 8 = x87 at hF
          generalize uF 9 = x88 at hF
          generalize uF 10 = x89 at hF
          generalize uF 11 = x90 at hF
          generalize uF 12 = x91 at hF
          generalize uF 13 = x92 at hF
          generalize uF 14 = x93 at hF
          generalize uF 15 = x94 at hF
          generalize uF 16 = x95 at h95 hF
          obtain rfl : x95 = (.bool false) := h95
          subst hF
          have hz5w := hCW5.size
          have BK5 := Lib.hid (BKr.out.below hCW5 BKr.out.lt)
          have BR5 := Lib.hid (BRr.out.below hCW5 BRr.out.lt)
          have BT5 := Lib.hid (BTr.out.below hCW5 BTr.out.lt)
          have BI5 := Lib.hid (BIr.out.below hCW5 BIr.out.lt)
          have BO5 := Lib.hid (BOr.out.below hCW5 BOr.out.lt)
          have BU5 := Lib.hid (BUr.out.below hCW5 BUr.out.lt)
          have HUL := Lib.hid hUl
          have HT5 := Lib.hid (OwS.below HTr.out hCW5)
          have HU5 := Lib.hid (OwS.below HUr.out hCW5)
          have HW5 := Lib.hid (HWr.out.trans (hCW5.mono (by omega)))
          have dLK5 := Lib.hid (show ∀ j u, (arr8 lk)[j]? = some u → W5.cell? ⟨g4, kk * 32 + j, none⟩ = some u from fun j u hu => (hCW5.cell (show (⟨g4, kk * 32 + j, none⟩ : Addr).block < wr.heap.size from hg4r)).trans (dLK.out j u hu))
          have hg45 : g4 < W5.heap.size := by omega
          clear BKr BRr BTr BIr BOr BUr HTr HLr HUr HWr dLK dR1 hCW5
          go_wp2_with fail
          refine wp_norm ?_
          refine (wpIn_wide (n := 4)).1 ?_
          refine wpIn_region_relJ free_wide rfl 8 (fun _ _ => True) (fun W W' => Below W.heap.size W W') [5, 6, 7] (J2 W5 28 (arr8 (z8' 32)) (arr8 lk) 5 6 7)
            [Det (.slice (some ⟨g4, 0, none⟩) 16 c4), Det (.int .i64 (kk : Int)), Det (.pointer (some ⟨g4, kk * 32, none⟩)), Det (.agg (arr8 lk)), Det (.agg (arr8 O)), Any, Any, Any, Any]
            [[], [], [(0, some 96), (1, some 97)], [(2, some 98)], [], [], [], [(5, some 19), (3, some 99)], [(6, some 20), (4, some 100)]]
            [[], [], [0, 1], [0, 1, 2], [], [], [], [0, 1, 2, 3, 5, 6], [0, 1, 2, 3, 4, 5, 6, 7]]
            [(0, some 96), (1, some 97), (2, some 98), (3, some 99), (4, some 100), (5, some 19), (6, some 20), (7, none), (8, none)] (by kernel_rfl) (by kernel_rfl) (by kernel_rfl) (fun l u w l' u' w' h1 h2 h3 => J2.step h1 h2 h3) (fun u => J2.start (Below.refl _ _).drew) ?_ ?_ ?_
          · exact (AllMono.cons (Det.laterT trivial) (AllMono.cons (Det.laterT trivial) (AllMono.cons (Det.laterT trivial) (AllMono.cons (Det.laterT trivial) (AllMono.cons (Det.laterT trivial) (AllMono.cons (Any.laterT trivial) (AllMono.cons (Any.laterT trivial) (AllMono.cons (Any.laterT trivial) (AllMono.cons (Any.laterT trivial) AllMono.nil)))))))))
          · refine AllObJ.cons (by decide) ?_ (AllObJ.cons (by decide) ?_ (AllObJ.cons (by decide) ?_ (AllObJ.cons (by decide) ?_ (AllObJ.cons (by decide) ?_ (AllObJ.spec (by decide) ?_ (AllObJ.spec (by decide) ?_ (AllObJ.spec (by decide) ?_ (AllObJ.nil))))))))
            · intro lF vF uF W hC' hU aF hF
              have hC : (J2 W5 28 (arr8 (z8' 32)) (arr8 lk) 5 6 7) lF vF W := hC'
              clear hC'
              simp only [puts] at hF
              subst hF
              go_wp2_with (fail)
              exact ⟨rfl, rfl, (Below.refl _ _), rfl⟩
            · intro lF vF uF W hC' hU aF hF
              have hC : (J2 W5 28 (arr8 (z8' 32)) (arr8 lk) 5 6 7) lF vF W := hC'
              clear hC'
              simp only [puts] at hF
              subst hF
              have d1 : W.cell? ⟨gI, 0, none⟩ = some (.int .i64 (kk : Int)) := by rw [(BI5.out.below hC.below BI5.out.lt).cell]; rfl
              go_wp2_with (fail)
              exact ⟨rfl, rfl, (Below.refl _ _), rfl⟩
            · intro lF vF uF W hC' hU aF hF
              have hC : (J2 W5 28 (arr8 (z8' 32)) (arr8 lk) 5 6 7) lF vF W := hC'
              clear hC'
              have h96 : (Det (.slice (some ⟨g4, 0, none⟩) 16 c4)) (uF 0) W := hU.1
              have h97 : (Det (.int .i64 (kk : Int))) (uF 1) W := hU.2.1
              clear hU
              simp only [puts, Act.put, List.setIfInBounds_toArray, List.set_cons_zero, List.set_cons_succ] at hF
              generalize uF 0 = x96 at h96 hF
              generalize uF 1 = x97 at h97 hF
              obtain rfl : x96 = (.slice (some ⟨g4, 0, none⟩) 16 c4) := h96
              obtain rfl : x97 = (.int .i64 (kk : Int)) := h97
              subst hF
              go_wp2_with (fail)
              exact ⟨rfl, rfl, (Below.refl _ _), rfl⟩
            · intro lF vF uF W hC' hU aF hF
              have hC : (J2 W5 28 (arr8 (z8' 32)) (arr8 lk) 5 6 7) lF vF W := hC'
              clear hC'
              have h98 : (Det (.pointer (some ⟨g4, kk * 32, none⟩))) (uF 2) W := hU.1
              clear hU
              simp only [puts, Act.put, List.setIfInBounds_toArray, List.set_cons_zero, List.set_cons_succ] at hF
              generalize uF 2 = x98 at h98 hF
              obtain rfl : x98 = (.pointer (some ⟨g4, kk * 32, none⟩)) := h98
              subst hF
              go_wp2_with (((with_reducible show wpList _ _ _ (Oper.mk _ (Op.load _ _) _ _ _ _ :: _) _ _); refine wpList_load_agg (by rfl) 28 (.tmp 98) rfl g4 (kk * 32) rfl (arr8 lk) agg44 (by rw [size_arr8, hlk]) (fun j v hv => (hC.below.cell (show (⟨g4, kk * 32 + j, none⟩ : Addr).block < W5.heap.size from hg45)).trans (dLK5.out j v hv)) ?_))
              exact ⟨rfl, rfl, (Below.refl _ _), rfl⟩
            · intro lF vF uF W hC' hU aF hF
              have hC : (J2 W5 28 (arr8 (z8' 32)) (arr8 lk) 5 6 7) lF vF W := hC'
              clear hC'
              simp only [puts] at hF
              subst hF
              go_wp2_with (((with_reducible show wpList _ _ _ (Oper.mk _ (Op.load _ _) _ _ _ _ :: _) _ _); refine wpList_load_whole (by rfl) 28 (.tmp 15) rfl gO rfl (arr8 O) agg44 (by rw [size_arr8, hlo]) 28 (BO5.out.below hC.below BO5.out.lt) ?_))
              exact ⟨rfl, rfl, (Below.refl _ _), rfl⟩
            · intro lF uF W hC' hun hpre hU aF hF
              have hC : (J2 W5 28 (arr8 (z8' 32)) (arr8 lk) 5 6 7) lF uF W := hC'
              clear hC'
              simp only [puts] at hF
              subst hF
              go_wp2_with (((with_reducible show wpList _ _ _ (Oper.mk _ (Op.alloc _) _ _ _ _ :: _) _ _); refine wpList_alloc_agg (by rfl) 28 rfl (arr8 (z8' 32)) zero44 ?_))
              exact ⟨rfl, rfl, trivial, trivial, J2.alA (by decide) (by decide) (by decide) hC hun⟩
            · intro lF uF W hC' hun hpre hU aF hF
              have hC : (J2 W5 28 (arr8 (z8' 32)) (arr8 lk) 5 6 7) lF uF W := hC'
              clear hC'
              simp only [puts] at hF
              subst hF
              go_wp2_with (((with_reducible show wpList _ _ _ (Oper.mk _ (Op.alloc _) _ _ _ _ :: _) _ _); refine wpList_alloc_agg (by rfl) 28 rfl (arr8 (z8' 32)) zero44 ?_))
              exact ⟨rfl, rfl, trivial, trivial, J2.alB (by decide) (by decide) (by decide) hC hun⟩
            · intro lF uF W hC' hun hpre hU aF hF
              have hC : (J2 W5 28 (arr8 (z8' 32)) (arr8 lk) 5 6 7) lF uF W := hC'
              clear hC'
              have h19 : Any (uF 5) W := hU.1
              have h99 : (Det (.agg (arr8 lk))) (uF 3) W := hU.2.1
              clear hU
              simp only [puts, Act.put, List.setIfInBounds_toArray, List.set_cons_zero, List.set_cons_succ] at hF
              obtain ⟨x19, e19⟩ : ∃ x, x = uF 5 := ⟨_, rfl⟩
              rw [← e19] at h19 hF
              obtain ⟨x99, e99⟩ : ∃ x, x = uF 3 := ⟨_, rfl⟩
              rw [← e99] at h99 hF
              obtain rfl : x99 = (.agg (arr8 lk)) := h99
              subst hF
              obtain ⟨g19, eg19, bg19⟩ := hC.getA (hpre 5 (by decide)) hun
              obtain rfl : x19 = .pointer (some ⟨g19, 0, none⟩) := e19.trans eg19
              go_wp2_with (((with_reducible show wpList _ _ _ (Oper.mk none (Op.store _ _ _) _ _ _ _ :: _) _ _); refine wpList_store8 (by rfl) 28 (.tmp 19) (.tmp 99) rfl g19 rfl lk rfl agg44 hlk _ _ bg19 (by rw [size_arr8, len_z8']) ?_; intro W9 k9 q9 s9))
              exact ⟨rfl, rfl, trivial, trivial, J2.st (by decide) (by decide) hC (hpre 5 (by decide)) (hpre 6 (by decide)) eg19 k9 q9⟩
          intro uF W6 hC' hU aF hF
          obtain ⟨lF, hlF, hCW6⟩ := hC'
          obtain ⟨gW, gN, eW, eN, hWN, hW0, hN0, bW, bN, hB6⟩ := J2.fin hCW6 (hlF 5 (by omega)) (hlF 6 (by omega)) (hlF 7 (by omega))
          clear hCW6 hlF
          have h100 : (Det (.agg (arr8 O))) (uF 4) W6 := hU.2.2.2.2.1
          have h19 : (Any) (uF 5) W6 := hU.2.2.2.2.2.1
          have h20 : (Any) (uF 6) W6 := hU.2.2.2.2.2.2.1
          clear hU
          simp only [List.take_succ_cons, List.take_zero, puts, Act.put, List.setIfInBounds_toArray, List.set_cons_zero, List.set_cons_succ] at hF
          generalize uF 0 = x96 at  hF
          generalize uF 1 = x97 at  hF
          generalize uF 2 = x98 at  hF
          generalize uF 3 = x99 at  hF
          generalize uF 4 = x100 at h100  hF
          generalize uF 5 = x19 at h19 eW hF
          generalize uF 6 = x20 at h20 eN hF
          obtain rfl : x100 = (.agg (arr8 O)) := h100
          subst hF
          simp only [List.drop_succ_cons, List.drop_zero]
          subst eW
          subst eN
          refine wpListIn_of free_wide (fun ⟨_, _, h⟩ => h) rfl ?_
          refine wpList_store8 rfl 28 (.tmp 20) (.tmp 100) rfl gN rfl O rfl agg44 hlo _ _ bN (by rw [size_arr8, len_z8']) ?_
          intro v20 b20 q20 s20
          simp only [Act.put, List.setIfInBounds_toArray, List.set_cons_succ, List.set_cons_zero]
          refine wpList_nil ?_
          dsimp only [Exit.then]
          have hb520 : Below W5.heap.size W5 v20 := hB6.grown q20 hB6.size (fun k hk => by cases hk; exact hN0)
          have hz520 := hb520.size
          have bW20 := bW.grown q20 (by simpa using hWN)
          have BW20 := Lib.hid bW20
          have BN20 := Lib.hid b20
          have BK2 := Lib.hid (BK5.out.below hb520 BK5.out.lt)
          have BR2 := Lib.hid (BR5.out.below hb520 BR5.out.lt)
          have BT2 := Lib.hid (BT5.out.below hb520 BT5.out.lt)
          have BI2 := Lib.hid (BI5.out.below hb520 BI5.out.lt)
          have BU2 := Lib.hid (BU5.out.below hb520 BU5.out.lt)
          have HT2 := Lib.hid (OwS.below HT5.out hb520)
          have HU2 := Lib.hid (OwS.below HU5.out hb520)
          have HW2 := Lib.hid (HW5.out.trans (hb520.mono (by have := HW5.out.size; exact this)))
          have dI2 : v20.cell? ⟨gI, 0, none⟩ = some (.int .i64 (kk : Int)) := by rw [BI2.out.cell]; rfl
          have hgWl := bW20.lt
          have hgNl := b20.lt
          clear hb520 bW20 b20 q20 s20 bW bN hB6 BK5 BR5 BT5 BI5 BO5 BU5 HT5 HU5 HW5 dLK5
          go_wp2_with fail
          refine (path_c (kk : Int) v20).mono ?_
          rintro e v21 ⟨rfl, hv21⟩
          have hb21 : Below v20.heap.size v20 v21 := by rw [hv21]; exact below_alloc _ _
          have B1 : Blk v21 v20.heap.size 3 #[.int .i64 (kk : Int)] := by rw [hv21]; exact Blk.new _ _ _
          have hz21 := hb21.size
          have hkwf : (Lit.int .i64 (kk : Int)).wf = true := by
            simp [Lit.wf, IntKind.min, IntKind.max, IntKind.signed, IntKind.bits]; omega
          obtain ⟨_, cur5, e5, hg55, hbc5, hsc5, htc5⟩ := (OwS.below HT2.out hb21).2.2.2 (by omega)
          cases e5
          obtain ⟨_, curU, eU, hgUU, hbcU, hscU, htcU⟩ := (OwS.below HU2.out hb21).2.2.2 (by omega)
          cases eU
          have HSC5 := Lib.hid hsc5
          have HTC5 := Lib.hid htc5
          have HSCU := Lib.hid hscU
          have HTCU := Lib.hid htcU
          have hwv : w.heap.size ≤ v21.heap.size := by have := HW2.out.size; omega
          have hw21 : Below w.heap.size w v21 := (hbv.trans (HW2.out.mono hz)).trans (hb21.mono (by have := HW2.out.size; omega))
          have hord : gK < v.heap.size ∧ gR < v.heap.size ∧ gT < v8.heap.size ∧ gI < v8.heap.size ∧ g5 < v8.heap.size ∧ v8.heap.size ≤ gu ∧ gu < gU ∧ gU < W5.heap.size ∧ W5.heap.size ≤ gW ∧ W5.heap.size ≤ gN ∧ w.heap.size ≤ gK ∧ gK < gR := by
            have hgUl := BU2.out.lt
            exact ⟨by omega, by omega, by omega, by omega, by omega, by omega, by omega, by omega, by omega, by omega, by omega, by omega⟩
          have hcW5 : W5.heap.size ≤ v21.heap.size := by omega
          have hst0 : Stay w [(gK, 22, #[.slice A0 n0 c0]), (gT, 51, #[.slice (some ⟨g5, 0, none⟩) 32 c5]), (gI, 3, #[.int .i64 (kk : Int)]), (gU, 51, #[.slice (some ⟨gu, 0, none⟩) 32 c9]), (g5, 28, cur5), (gu, 28, curU)] (fun k => k = gW ∨ k = gN ∨ k = gR) v21 := ⟨fun p hp => by
            simp only [List.mem_cons, List.not_mem_nil, or_false] at hp
            rcases hp with rfl | rfl | rfl | rfl | rfl | rfl
            · exact ⟨by show ¬ (gK = gW ∨ gK = gN ∨ gK = gR); omega, BK2.out.below hb21 BK2.out.lt⟩
            · exact ⟨by show ¬ (gT = gW ∨ gT = gN ∨ gT = gR); omega, BT2.out.below hb21 BT2.out.lt⟩
            · exact ⟨by show ¬ (gI = gW ∨ gI = gN ∨ gI = gR); omega, BI2.out.below hb21 BI2.out.lt⟩
            · exact ⟨by show ¬ (gU = gW ∨ gU = gN ∨ gU = gR); omega, BU2.out.below hb21 BU2.out.lt⟩
            · exact ⟨by show ¬ (g5 = gW ∨ g5 = gN ∨ g5 = gR); omega, hbc5⟩
            · exact ⟨by show ¬ (gu = gW ∨ gu = gN ∨ gu = gR); omega, hbcU⟩, hw21⟩
          have HST0 := Lib.hid hst0
          have HBW := Lib.hid (BW20.out.below hb21 BW20.out.lt)
          have HBN := Lib.hid (BN20.out.below hb21 BN20.out.lt)
          have HBR := Lib.hid (BR2.out.below hb21 BR2.out.lt)
          have hne : lk ≠ O := fun e => by have := HE.out; rw [e] at this; simp at this
          have HBA := Lib.hid (show BindAt key T U O kk 0 lk O from ⟨by omega, hlk, hlo, hne, fun _ => ⟨by rw [HLEAF.out]; exact HLKE.out, rfl⟩, fun y hy => by omega⟩)
          have HROOT := Lib.hid (show elt (climbT key U (kk : Int) O) 1 = elt T 1 by rw [← HR1E.out]; exact beq_iff_eq.1 HRR.out)
          have hgR21 : gR < v21.heap.size := by omega
          have hWR : gW ≠ gR ∧ gN ≠ gR := by omega
          have hwR : w.heap.size ≤ gR ∧ w.heap.size ≤ gW ∧ w.heap.size ≤ gN := by omega
          have hgWl2 := HBW.out.lt
          have hgNl2 := HBN.out.lt
          clear hv21 hb21 hst0 hw21 hne BW20 BN20 BK2 BR2 BT2 BI2 BU2 HT2 HU2 HW2 dI2 hsc5 htc5 hscU htcU hbc5 hbcU
          go_wp2_with fail
          refine wp_at fun a0 ha0 => ?_
          refine wp_range (O := fun k => k = gW ∨ k = gN ∨ k = gR) (a := a0) (by rw [ha0]; rfl) (enters_of Try.func44 (by kernel_rfl) rfl) (path_iter hkwf B1) (Below.refl _ _) (fun _ => rfl) (fun k hk => by rcases hk with rfl | rfl | rfl <;> exact ⟨by omega, by omega⟩)
            (fun O' pre W' => ∃ was now : List UInt8, BindAt key T U O kk pre.length was now ∧ Stay w [(gK, 22, #[.slice A0 n0 c0]), (gT, 51, #[.slice (some ⟨g5, 0, none⟩) 32 c5]), (gI, 3, #[.int .i64 (kk : Int)]), (gU, 51, #[.slice (some ⟨gu, 0, none⟩) 32 c9]), (g5, 28, cur5), (gu, 28, curU)] O' W' ∧ (O' gW ∧ O' gN ∧ O' gR) ∧ Blk W' gW 28 (arr8 was) ∧ Blk W' gN 28 (arr8 now) ∧ Blk W' gR 4 #[.bool false])
            (fun c pre W' => c = .ret ∧ (∃ O', Stay w [(gK, 22, #[.slice A0 n0 c0]), (gT, 51, #[.slice (some ⟨g5, 0, none⟩) 32 c5]), (gI, 3, #[.int .i64 (kk : Int)]), (gU, 51, #[.slice (some ⟨gu, 0, none⟩) 32 c9]), (g5, 28, cur5), (gu, 28, curU)] O' W') ∧ Blk W' gR 4 #[.bool true])
            (fun O' => ownFrom_of fun pre X X' hs hc => by
              obtain ⟨was, now, s1, s2, s3, s4, s5, s6⟩ := hs
              exact ⟨was, now, s1, s2.calm hc hwv, s3, hc.blk s4, hc.blk s5, hc.blk s6⟩)
            (fun c => ownFrom_of fun s X X' hs hc => ⟨hs.1, by obtain ⟨O', h⟩ := hs.2.1; exact ⟨O', h.calm hc hwv⟩, hc.blk hs.2.2⟩)
            ⟨lk, O, HBA.out, HST0.out, ⟨.inl rfl, .inr (.inl rfl), .inr (.inr rfl)⟩, HBW.out, HBN.out, HBR.out⟩
            (fun O' pre x a' W' => (∃ was now : List UInt8, BindAt key T U O kk pre.length was now ∧ Stay w [(gK, 22, #[.slice A0 n0 c0]), (gT, 51, #[.slice (some ⟨g5, 0, none⟩) 32 c5]), (gI, 3, #[.int .i64 (kk : Int)]), (gU, 51, #[.slice (some ⟨gu, 0, none⟩) 32 c9]), (g5, 28, cur5), (gu, 28, curU)] O' W' ∧ (O' gW ∧ O' gN ∧ O' gR) ∧ Blk W' gW 28 (arr8 was) ∧ Blk W' gN 28 (arr8 now) ∧ Blk W' gR 4 #[.bool false]) ∧ x = pre.length ∧ x < pathLen (kk : Int) ∧ a' = { tmps := (a0.tmps.setIfInBounds 103 (.int .i64 (pathAt (kk : Int) x : Int))).setIfInBounds 21 (.int .i64 (pathAt (kk : Int) x : Int)), defers := [] })
            (fun O' pre x a' => ownFrom_of fun s X X' hs hc => ⟨by
              obtain ⟨⟨was, now, s1, s2, s3, s4, s5, s6⟩, _⟩ := hs
              exact ⟨was, now, s1, s2.calm hc hwv, s3, hc.blk s4, hc.blk s5, hc.blk s6⟩, hs.2⟩) ?_ ?_ ?_ ?_
          · rintro l' O' pre x W' K st ⟨hx1, hx2⟩ hK
            have HX1 := Lib.hid hx1
            have HST := Lib.hid st
            clear hx1 st
            simp only [fold_one]
            subst ha0
            simp only [List.setIfInBounds_toArray, List.set_cons_succ, List.set_cons_zero]
            gi_wp2
            exact hK O' _ _ (Kept.refl _ _) ⟨HST.out, HX1.out, hx2, rfl⟩
          · rintro l' O' pre x a' W' ⟨⟨was, now, hBA, sx, ⟨oW, oN, oR⟩, bW, bN, bR⟩, hx1, hx2, rfl⟩
            have hx5 : x < 5 := by rw [pathLen, if_pos ⟨by omega, by omega⟩] at hx2; exact hx2
            subst ha0
            obtain ⟨i, hi⟩ : ∃ i, i = pathAt (kk : Int) x := ⟨_, rfl⟩
            rw [← hi]
            have hbk : (0 : Int) ≤ (kk : Int) ∧ (kk : Int) < 16 := ⟨by omega, by omega⟩
            have hi31 : i ≤ 31 := by rw [hi]; exact pathAt_le hbk x
            have hi1 : 0 < i := by rw [hi]; exact pathAt_pos hbk hx5
            have hii31 : (i : Int) ≤ 31 := by omega
            have hii0 : (0 : Int) ≤ (i : Int) := by omega
            have hpl : (pre ++ [x]).length = x + 1 := by rw [List.length_append, List.length_cons, List.length_nil, hx1]
            have HPL := Lib.hid hpl
            rw [← hx1] at hBA
            have hzW := sx.2.size
            have HSX := Lib.hid sx
            have HBA1 := Lib.hid hBA
            have BW1 := Lib.hid bW
            have BN1 := Lib.hid bN
            have BR1' := Lib.hid bR
            have HI := Lib.hid hi
            have HX1 := Lib.hid hx1
            clear hpl hx1 hx2 hi sx hBA bW bN bR
            simp only [List.setIfInBounds_toArray, List.set_cons_succ, List.set_cons_zero]
            refine wpIn_block ?_
            refine wpIn_seq_k fun K1 hK1 => ?_
            have HK1 := Lib.hid hK1
            clear hK1
            refine wpIn_seq_k fun K2 hK2 => ?_
            have HK2 := Lib.hid hK2
            clear hK2
            by_cases h0 : x = 0
            · have h16 : 16 ≤ i := by rw [HI.out, h0, pathAt_zero]; omega
              have hi16 : (16 : Int) ≤ (i : Int) := by omega
              gi_wp2
              refine HK2.out _ _ ?_
              refine wpIn_cond_true rfl ?_
              gi_wp2
              have hBA0 := HBA1.out
              rw [h0] at hBA0
              exact ⟨O', Kept.refl _ _, was, now, by rw [HPL.out, h0]; exact bind_zero HUL.out hlo hkn hBA0, HSX.out, ⟨oW, oN, oR⟩, BW1.out, BN1.out, BR1'.out⟩
            obtain ⟨y, rfl⟩ : ∃ y, x = y + 1 := ⟨x - 1, by omega⟩
            have hy4 : y < 4 := by omega
            have h16 : i < 16 := by
              have h1 := HI.out
              rw [pathAt_succ] at h1
              have := pathAt_le hbk y
              omega
            have hi16 : ¬ (16 : Int) ≤ (i : Int) := by omega
            gi_wp2
            refine HK2.out _ _ ?_
            refine wpIn_cond_false rfl ?_
            refine wpIn_skip ?_
            refine HK1.out _ _ ?_
            obtain ⟨L2, hL2⟩ : ∃ L2, L2 = 2 * i := ⟨_, rfl⟩
            obtain ⟨M2, hM2⟩ : ∃ M2, M2 = L2 + 1 := ⟨_, rfl⟩
            have hLi : 2 * (i : Int) = (L2 : Int) := by omega
            have hMi : (L2 : Int) + 1 = (M2 : Int) := by omega
            have hL32 : (L2 : Int) < 32 := by omega
            have hM32 : (M2 : Int) < 32 := by omega
            have hL0 : (0 : Int) ≤ (L2 : Int) := by omega
            have hM0 : (0 : Int) ≤ (M2 : Int) := by omega
            have c5' := (HSX.out.1 _ (List.Mem.tail _ (List.Mem.tail _ (List.Mem.tail _ (List.Mem.tail _ (List.Mem.head _)))))).2
            have cU' := (HSX.out.1 _ (List.Mem.tail _ (List.Mem.tail _ (List.Mem.tail _ (List.Mem.tail _ (List.Mem.tail _ (List.Mem.head _))))))).2
            have hT5 : OwS W' v4.heap.size (some ⟨g5, 0, none⟩) 32 c5 T := ⟨by simpa using hTl, hc5, hcc5, fun _ => ⟨g5, cur5, rfl, hg55, c5', HSC5.out, HTC5.out⟩⟩
            have hU5 : OwS W' v8.heap.size (some ⟨gu, 0, none⟩) 32 c9 U := ⟨by simpa using HUL.out, hc9, hcc9, fun _ => ⟨gu, curU, rfl, hgUU, cU', HSCU.out, HTCU.out⟩⟩
            have dT0 := Lib.hid (OwS.elt_ hT5 (i := L2) (by omega))
            have dT1 := Lib.hid (OwS.elt_ hT5 (i := M2) (by omega))
            have dU0 := Lib.hid (OwS.elt_ hU5 (i := L2) (by omega))
            have dU1 := Lib.hid (OwS.elt_ hU5 (i := M2) (by omega))
            have ht0 := len_elt hTl (i := L2) (by omega)
            have ht1 := len_elt hTl (i := M2) (by omega)
            have hu0 := len_elt HUL.out (i := L2) (by omega)
            have hu1 := len_elt HUL.out (i := M2) (by omega)
            have hg5W := c5'.lt
            have hguW := cU'.lt
            have hgTW := ((HSX.out.1 _ (List.Mem.tail _ (List.Mem.head _))).2).lt
            have hgUW := ((HSX.out.1 _ (List.Mem.tail _ (List.Mem.tail _ (List.Mem.tail _ (List.Mem.head _))))).2).lt
            have hgKW := ((HSX.out.1 _ (List.Mem.head _)).2).lt
            have hgIW := ((HSX.out.1 _ (List.Mem.tail _ (List.Mem.tail _ (List.Mem.head _)))).2).lt
            have DgT := Lib.hid (show W'.cell? ⟨gT, 0, none⟩ = some (.slice (some ⟨g5, 0, none⟩) 32 c5) by rw [HSX.out.cell (List.Mem.tail _ (List.Mem.head _))]; rfl)
            have DgU := Lib.hid (show W'.cell? ⟨gU, 0, none⟩ = some (.slice (some ⟨gu, 0, none⟩) 32 c9) by rw [HSX.out.cell (List.Mem.tail _ (List.Mem.tail _ (List.Mem.tail _ (List.Mem.head _))))]; rfl)
            have DgI := Lib.hid (show W'.cell? ⟨gI, 0, none⟩ = some (.int .i64 (kk : Int)) by rw [HSX.out.cell (List.Mem.tail _ (List.Mem.tail _ (List.Mem.head _)))]; rfl)
            have DgK := Lib.hid (show W'.cell? ⟨gK, 0, none⟩ = some (.slice A0 n0 c0) by rw [HSX.out.cell (List.Mem.head _)]; rfl)
            have hbs := bind_step (i := i) HTREE.out HUL.out hlo hkn HBA1.out (by omega) HI.out (pathAt (kk : Int) y % 2) rfl
            have hlw := HBA1.out.2.1
            have hln := HBA1.out.2.2.1
            obtain ⟨sd, hsd⟩ : ∃ sd, sd = pathAt (kk : Int) y % 2 := ⟨_, rfl⟩
            rw [← hsd] at hbs
            have hsd2 : sd < 2 := by omega
            unfold pairOf at hbs
            rw [← hL2, ← hM2] at hbs
            obtain ⟨t0, et0⟩ : ∃ t, t = elt T L2 := ⟨_, rfl⟩
            obtain ⟨t1, et1⟩ : ∃ t, t = elt T M2 := ⟨_, rfl⟩
            obtain ⟨u0, eu0⟩ : ∃ t, t = elt U L2 := ⟨_, rfl⟩
            obtain ⟨u1, eu1⟩ : ∃ t, t = elt U M2 := ⟨_, rfl⟩
            rw [← et0, ← et1, ← eu0, ← eu1] at hbs
            rw [← et0] at dT0 ht0
            rw [← et1] at dT1 ht1
            rw [← eu0] at dU0 hu0
            rw [← eu1] at dU1 hu1
            obtain ⟨PA, hPAe⟩ : ∃ p, p = putS (t0 ++ t1) sd was := ⟨_, rfl⟩
            obtain ⟨PB, hPBe⟩ : ∃ p, p = putS (u0 ++ u1) sd now := ⟨_, rfl⟩
            rw [← hPAe, ← hPBe] at hbs
            have ht01 : (t0 ++ t1).length = 2 * 32 := by rw [List.length_append, ht0, ht1]
            have hu01 : (u0 ++ u1).length = 2 * 32 := by rw [List.length_append, hu0, hu1]
            have hPA : PA.length = 2 * 32 := by rw [hPAe]; exact len_putS ht01 hsd2 hlw
            have hPB : PB.length = 2 * 32 := by rw [hPBe]; exact len_putS hu01 hsd2 hln
            obtain ⟨nw, hnw⟩ : ∃ p, p = joinOf key (i : Int) (elt PA 0) (elt PA 1) := ⟨_, rfl⟩
            obtain ⟨nn, hnn⟩ : ∃ p, p = joinOf key (i : Int) (elt PB 0) (elt PB 1) := ⟨_, rfl⟩
            rw [← hnw, ← hnn] at hbs
            have hlnw : nw.length = 32 := by rw [hnw]; exact len_joinOf _ _ _ _
            have hlnn : nn.length = 32 := by rw [hnn]; exact len_joinOf _ _ _ _
            have HBS := Lib.hid hbs
            have HPA := Lib.hid hPAe
            have HPB := Lib.hid hPBe
            have HNW := Lib.hid hnw
            have HNN := Lib.hid hnn
            have HSD := Lib.hid hsd
            have HL2 := Lib.hid hL2
            clear hbs hPAe hPBe hnw hnn hsd et0 et1 eu0 eu1 hT5 hU5 c5' cU' hM2 hL2 hi16
            refine wpIn_seq_k fun K3 hK3 => ?_
            have HK3 := Lib.hid hK3
            clear hK3
            refine wpIn_region_relJ (free_rd l') rfl 27 (fun _ _ => True) (fun W W' => Below W.heap.size W W') [24, 25, 26] (J2 W' 62 (arr8 (z8' 64)) (arr8 (t0 ++ t1)) 24 25 26)
              [Det (.slice (some ⟨g5, 0, none⟩) 32 c5), Det (.int .i64 (i : Int)), Det (.int .i64 (L2 : Int)), Det (.pointer (some ⟨g5, L2 * 32, none⟩)), Det (.agg (arr8 t0)), Det (.slice (some ⟨g5, 0, none⟩) 32 c5), Det (.int .i64 (i : Int)), Det (.int .i64 (L2 : Int)), Det (.int .i64 (M2 : Int)), Det (.pointer (some ⟨g5, M2 * 32, none⟩)), Det (.agg (arr8 t1)), Det (.agg (arr8 (t0 ++ t1))), Det (.slice (some ⟨gu, 0, none⟩) 32 c9), Det (.int .i64 (i : Int)), Det (.int .i64 (L2 : Int)), Det (.pointer (some ⟨gu, L2 * 32, none⟩)), Det (.agg (arr8 u0)), Det (.slice (some ⟨gu, 0, none⟩) 32 c9), Det (.int .i64 (i : Int)), Det (.int .i64 (L2 : Int)), Det (.int .i64 (M2 : Int)), Det (.pointer (some ⟨gu, M2 * 32, none⟩)), Det (.agg (arr8 u1)), Det (.agg (arr8 (u0 ++ u1))), Any, Any, Any, Any]
              [[], [], [(1, some 107)], [(0, some 106), (2, some 108)], [(3, some 109)], [], [], [(6, some 112)], [(7, some 113)], [(5, some 111), (8, some 114)], [(9, some 115)], [(4, some 110), (10, some 116)], [], [], [(13, some 119)], [(12, some 118), (14, some 120)], [(15, some 121)], [], [], [(18, some 124)], [(19, some 125)], [(17, some 123), (20, some 126)], [(21, some 127)], [(16, some 122), (22, some 128)], [], [], [(24, some 22), (11, some 117)], [(25, some 23), (23, some 129)]]
              [[], [], [1], [0, 1, 2], [0, 1, 2, 3], [], [], [6], [6, 7], [5, 6, 7, 8], [5, 6, 7, 8, 9], [0, 1, 2, 3, 4, 5, 6, 7, 8, 9, 10], [], [], [13], [12, 13, 14], [12, 13, 14, 15], [], [], [18], [18, 19], [17, 18, 19, 20], [17, 18, 19, 20, 21], [12, 13, 14, 15, 16, 17, 18, 19, 20, 21, 22], [], [], [0, 1, 2, 3, 4, 5, 6, 7, 8, 9, 10, 11, 24, 25], [0, 1, 2, 3, 4, 5, 6, 7, 8, 9, 10, 11, 12, 13, 14, 15, 16, 17, 18, 19, 20, 21, 22, 23, 24, 25, 26]]
              [(0, some 106), (1, some 107), (2, some 108), (3, some 109), (4, some 110), (5, some 111), (6, some 112), (7, some 113), (8, some 114), (9, some 115), (10, some 116), (11, some 117), (12, some 118), (13, some 119), (14, some 120), (15, some 121), (16, some 122), (17, some 123), (18, some 124), (19, some 125), (20, some 126), (21, some 127), (22, some 128), (23, some 129), (24, some 22), (25, some 23), (26, none), (27, none)] (by kernel_rfl) (by kernel_rfl) (by kernel_rfl) (fun l u w l' u' w' h1 h2 h3 => J2.step h1 h2 h3) (fun u => J2.start (Below.refl _ _).drew) ?_ ?_ ?_
            · exact (AllMono.cons (Det.laterT trivial) (AllMono.cons (Det.laterT trivial) (AllMono.cons (Det.laterT trivial) (AllMono.cons (Det.laterT trivial) (AllMono.cons (Det.laterT trivial) (AllMono.cons (Det.laterT trivial) (AllMono.cons (Det.laterT trivial) (AllMono.cons (Det.laterT trivial) (AllMono.cons (Det.laterT trivial) (AllMono.cons (Det.laterT trivial) (AllMono.cons (Det.laterT trivial) (AllMono.cons (Det.laterT trivial) (AllMono.cons (Det.laterT trivial) (AllMono.cons (Det.laterT trivial) (AllMono.cons (Det.laterT trivial) (AllMono.cons (Det.laterT trivial) (AllMono.cons (Det.laterT trivial) (AllMono.cons (Det.laterT trivial) (AllMono.cons (Det.laterT trivial) (AllMono.cons (Det.laterT trivial) (AllMono.cons (Det.laterT trivial) (AllMono.cons (Det.laterT trivial) (AllMono.cons (Det.laterT trivial) (AllMono.cons (Det.laterT trivial) (AllMono.cons (Any.laterT trivial) (AllMono.cons (Any.laterT trivial) (AllMono.cons (Any.laterT trivial) (AllMono.cons (Any.laterT trivial) AllMono.nil))))))))))))))))))))))))))))
            · refine AllObJ.cons (by decide) ?_ (AllObJ.cons (by decide) ?_ (AllObJ.cons (by decide) ?_ (AllObJ.cons (by decide) ?_ (AllObJ.cons (by decide) ?_ (AllObJ.cons (by decide) ?_ (AllObJ.cons (by decide) ?_ (AllObJ.cons (by decide) ?_ (AllObJ.cons (by decide) ?_ (AllObJ.cons (by decide) ?_ (AllObJ.cons (by decide) ?_ (AllObJ.cons (by decide) ?_ (AllObJ.cons (by decide) ?_ (AllObJ.cons (by decide) ?_ (AllObJ.cons (by decide) ?_ (AllObJ.cons (by decide) ?_ (AllObJ.cons (by decide) ?_ (AllObJ.cons (by decide) ?_ (AllObJ.cons (by decide) ?_ (AllObJ.cons (by decide) ?_ (AllObJ.cons (by decide) ?_ (AllObJ.cons (by decide) ?_ (AllObJ.cons (by decide) ?_ (AllObJ.cons (by decide) ?_ (AllObJ.spec (by decide) ?_ (AllObJ.spec (by decide) ?_ (AllObJ.spec (by decide) ?_ (AllObJ.nil)))))))))))))))))))))))))))
              · intro lF vF uF W hC' hU aF hF
                have hC : (J2 W' 62 (arr8 (z8' 64)) (arr8 (t0 ++ t1)) 24 25 26) lF vF W := hC'
                clear hC'
                simp only [puts] at hF
                subst hF
                have d1 : W.cell? ⟨gT, 0, none⟩ = some (.slice (some ⟨g5, 0, none⟩) 32 c5) := (hC.below.cell (p := ⟨gT, 0, none⟩) hgTW).trans DgT.out
                go_wp2_with (fail)
                exact ⟨rfl, rfl, (Below.refl _ _), rfl⟩
              · intro lF vF uF W hC' hU aF hF
                have hC : (J2 W' 62 (arr8 (z8' 64)) (arr8 (t0 ++ t1)) 24 25 26) lF vF W := hC'
                clear hC'
                simp only [puts] at hF
                subst hF
                go_wp2_with (fail)
                exact ⟨rfl, rfl, (Below.refl _ _), rfl⟩
              · intro lF vF uF W hC' hU aF hF
                have hC : (J2 W' 62 (arr8 (z8' 64)) (arr8 (t0 ++ t1)) 24 25 26) lF vF W := hC'
                clear hC'
                have h107 : (Det (.int .i64 (i : Int))) (uF 1) W := hU.1
                clear hU
                simp only [puts, Act.put, List.setIfInBounds_toArray, List.set_cons_zero, List.set_cons_succ] at hF
                generalize uF 1 = x107 at h107 hF
                obtain rfl : x107 = (.int .i64 (i : Int)) := h107
                subst hF
                go_wp2_with (fail)
                exact ⟨rfl, rfl, (Below.refl _ _), rfl⟩
              · intro lF vF uF W hC' hU aF hF
                have hC : (J2 W' 62 (arr8 (z8' 64)) (arr8 (t0 ++ t1)) 24 25 26) lF vF W := hC'
                clear hC'
                have h106 : (Det (.slice (some ⟨g5, 0, none⟩) 32 c5)) (uF 0) W := hU.1
                have h108 : (Det (.int .i64 (L2 : Int))) (uF 2) W := hU.2.1
                clear hU
                simp only [puts, Act.put, List.setIfInBounds_toArray, List.set_cons_zero, List.set_cons_succ] at hF
                generalize uF 0 = x106 at h106 hF
                generalize uF 2 = x108 at h108 hF
                obtain rfl : x106 = (.slice (some ⟨g5, 0, none⟩) 32 c5) := h106
                obtain rfl : x108 = (.int .i64 (L2 : Int)) := h108
                subst hF
                go_wp2_with (fail)
                exact ⟨rfl, rfl, (Below.refl _ _), rfl⟩
              · intro lF vF uF W hC' hU aF hF
                have hC : (J2 W' 62 (arr8 (z8' 64)) (arr8 (t0 ++ t1)) 24 25 26) lF vF W := hC'
                clear hC'
                have h109 : (Det (.pointer (some ⟨g5, L2 * 32, none⟩))) (uF 3) W := hU.1
                clear hU
                simp only [puts, Act.put, List.setIfInBounds_toArray, List.set_cons_zero, List.set_cons_succ] at hF
                generalize uF 3 = x109 at h109 hF
                obtain rfl : x109 = (.pointer (some ⟨g5, L2 * 32, none⟩)) := h109
                subst hF
                go_wp2_with (((with_reducible show wpList _ _ _ (Oper.mk _ (Op.load _ _) _ _ _ _ :: _) _ _); refine wpList_load_agg (by rfl) 28 (.tmp 109) rfl g5 (L2 * 32) rfl (arr8 t0) agg44 (by rw [size_arr8, ht0]) (fun j v hv => (hC.below.cell (show (⟨g5, L2 * 32 + j, none⟩ : Addr).block < W'.heap.size from hg5W)).trans (dT0.out j v hv)) ?_))
                exact ⟨rfl, rfl, (Below.refl _ _), rfl⟩
              · intro lF vF uF W hC' hU aF hF
                have hC : (J2 W' 62 (arr8 (z8' 64)) (arr8 (t0 ++ t1)) 24 25 26) lF vF W := hC'
                clear hC'
                simp only [puts] at hF
                subst hF
                have d1 : W.cell? ⟨gT, 0, none⟩ = some (.slice (some ⟨g5, 0, none⟩) 32 c5) := (hC.below.cell (p := ⟨gT, 0, none⟩) hgTW).trans DgT.out
                go_wp2_with (fail)
                exact ⟨rfl, rfl, (Below.refl _ _), rfl⟩
              · intro lF vF uF W hC' hU aF hF
                have hC : (J2 W' 62 (arr8 (z8' 64)) (arr8 (t0 ++ t1)) 24 25 26) lF vF W := hC'
                clear hC'
                simp only [puts] at hF
                subst hF
                go_wp2_with (fail)
                exact ⟨rfl, rfl, (Below.refl _ _), rfl⟩
              · intro lF vF uF W hC' hU aF hF
                have hC : (J2 W' 62 (arr8 (z8' 64)) (arr8 (t0 ++ t1)) 24 25 26) lF vF W := hC'
                clear hC'
                have h112 : (Det (.int .i64 (i : Int))) (uF 6) W := hU.1
                clear hU
                simp only [puts, Act.put, List.setIfInBounds_toArray, List.set_cons_zero, List.set_cons_succ] at hF
                generalize uF 6 = x112 at h112 hF
                obtain rfl : x112 = (.int .i64 (i : Int)) := h112
                subst hF
                go_wp2_with (fail)
                exact ⟨rfl, rfl, (Below.refl _ _), rfl⟩
              · intro lF vF uF W hC' hU aF hF
                have hC : (J2 W' 62 (arr8 (z8' 64)) (arr8 (t0 ++ t1)) 24 25 26) lF vF W := hC'
                clear hC'
                have h113 : (Det (.int .i64 (L2 : Int))) (uF 7) W := hU.1
                clear hU
                simp only [puts, Act.put, List.setIfInBounds_toArray, List.set_cons_zero, List.set_cons_succ] at hF
                generalize uF 7 = x113 at h113 hF
                obtain rfl : x113 = (.int .i64 (L2 : Int)) := h113
                subst hF
                go_wp2_with (fail)
                exact ⟨rfl, rfl, (Below.refl _ _), rfl⟩
              · intro lF vF uF W hC' hU aF hF
                have hC : (J2 W' 62 (arr8 (z8' 64)) (arr8 (t0 ++ t1)) 24 25 26) lF vF W := hC'
                clear hC'
                have h111 : (Det (.slice (some ⟨g5, 0, none⟩) 32 c5)) (uF 5) W := hU.1
                have h114 : (Det (.int .i64 (M2 : Int))) (uF 8) W := hU.2.1
                clear hU
                simp only [puts, Act.put, List.setIfInBounds_toArray, List.set_cons_zero, List.set_cons_succ] at hF
                generalize uF 5 = x111 at h111 hF
                generalize uF 8 = x114 at h114 hF
                obtain rfl : x111 = (.slice (some ⟨g5, 0, none⟩) 32 c5) := h111
                obtain rfl : x114 = (.int .i64 (M2 : Int)) := h114
                subst hF
                go_wp2_with (fail)
                exact ⟨rfl, rfl, (Below.refl _ _), rfl⟩
              · intro lF vF uF W hC' hU aF hF
                have hC : (J2 W' 62 (arr8 (z8' 64)) (arr8 (t0 ++ t1)) 24 25 26) lF vF W := hC'
                clear hC'
                have h115 : (Det (.pointer (some ⟨g5, M2 * 32, none⟩))) (uF 9) W := hU.1
                clear hU
                simp only [puts, Act.put, List.setIfInBounds_toArray, List.set_cons_zero, List.set_cons_succ] at hF
                generalize uF 9 = x115 at h115 hF
                obtain rfl : x115 = (.pointer (some ⟨g5, M2 * 32, none⟩)) := h115
                subst hF
                go_wp2_with (((with_reducible show wpList _ _ _ (Oper.mk _ (Op.load _ _) _ _ _ _ :: _) _ _); refine wpList_load_agg (by rfl) 28 (.tmp 115) rfl g5 (M2 * 32) rfl (arr8 t1) agg44 (by rw [size_arr8, ht1]) (fun j v hv => (hC.below.cell (show (⟨g5, M2 * 32 + j, none⟩ : Addr).block < W'.heap.size from hg5W)).trans (dT1.out j v hv)) ?_))
                exact ⟨rfl, rfl, (Below.refl _ _), rfl⟩
              · intro lF vF uF W hC' hU aF hF
                have hC : (J2 W' 62 (arr8 (z8' 64)) (arr8 (t0 ++ t1)) 24 25 26) lF vF W := hC'
                clear hC'
                have h110 : (Det (.agg (arr8 t0))) (uF 4) W := hU.1
                have h116 : (Det (.agg (arr8 t1))) (uF 10) W := hU.2.1
                clear hU
                simp only [puts, Act.put, List.setIfInBounds_toArray, List.set_cons_zero, List.set_cons_succ] at hF
                generalize uF 4 = x110 at h110 hF
                generalize uF 10 = x116 at h116 hF
                obtain rfl : x110 = (.agg (arr8 t0)) := h110
                obtain rfl : x116 = (.agg (arr8 t1)) := h116
                subst hF
                go_wp2_with (((with_reducible show wpList _ _ _ (Oper.mk _ (Op.build _ _) _ _ _ _ :: _) _ _); refine wpList_build (by rfl) 62 _ rfl #[(0, .agg (arr8 t0)), (1, .agg (arr8 t1))] (by simp only [List.map_toArray, List.map_cons, List.map_nil]; rfl) _ (buildPair t0 t1 ht0 ht1 _) ?_))
                exact ⟨rfl, rfl, (Below.refl _ _), rfl⟩
              · intro lF vF uF W hC' hU aF hF
                have hC : (J2 W' 62 (arr8 (z8' 64)) (arr8 (t0 ++ t1)) 24 25 26) lF vF W := hC'
                clear hC'
                simp only [puts] at hF
                subst hF
                have d1 : W.cell? ⟨gU, 0, none⟩ = some (.slice (some ⟨gu, 0, none⟩) 32 c9) := (hC.below.cell (p := ⟨gU, 0, none⟩) hgUW).trans DgU.out
                go_wp2_with (fail)
                exact ⟨rfl, rfl, (Below.refl _ _), rfl⟩
              · intro lF vF uF W hC' hU aF hF
                have hC : (J2 W' 62 (arr8 (z8' 64)) (arr8 (t0 ++ t1)) 24 25 26) lF vF W := hC'
                clear hC'
                simp only [puts] at hF
                subst hF
                go_wp2_with (fail)
                exact ⟨rfl, rfl, (Below.refl _ _), rfl⟩
              · intro lF vF uF W hC' hU aF hF
                have hC : (J2 W' 62 (arr8 (z8' 64)) (arr8 (t0 ++ t1)) 24 25 26) lF vF W := hC'
                clear hC'
                have h119 : (Det (.int .i64 (i : Int))) (uF 13) W := hU.1
                clear hU
                simp only [puts, Act.put, List.setIfInBounds_toArray, List.set_cons_zero, List.set_cons_succ] at hF
                generalize uF 13 = x119 at h119 hF
                obtain rfl : x119 = (.int .i64 (i : Int)) := h119
                subst hF
                go_wp2_with (fail)
                exact ⟨rfl, rfl, (Below.refl _ _), rfl⟩
              · intro lF vF uF W hC' hU aF hF
                have hC : (J2 W' 62 (arr8 (z8' 64)) (arr8 (t0 ++ t1)) 24 25 26) lF vF W := hC'
                clear hC'
                have h118 : (Det (.slice (some ⟨gu, 0, none⟩) 32 c9)) (uF 12) W := hU.1
                have h120 : (Det (.int .i64 (L2 : Int))) (uF 14) W := hU.2.1
                clear hU
                simp only [puts, Act.put, List.setIfInBounds_toArray, List.set_cons_zero, List.set_cons_succ] at hF
                generalize uF 12 = x118 at h118 hF
                generalize uF 14 = x120 at h120 hF
                obtain rfl : x118 = (.slice (some ⟨gu, 0, none⟩) 32 c9) := h118
                obtain rfl : x120 = (.int .i64 (L2 : Int)) := h120
                subst hF
                go_wp2_with (fail)
                exact ⟨rfl, rfl, (Below.refl _ _), rfl⟩
              · intro lF vF uF W hC' hU aF hF
                have hC : (J2 W' 62 (arr8 (z8' 64)) (arr8 (t0 ++ t1)) 24 25 26) lF vF W := hC'
                clear hC'
                have h121 : (Det (.pointer (some ⟨gu, L2 * 32, none⟩))) (uF 15) W := hU.1
                clear hU
                simp only [puts, Act.put, List.setIfInBounds_toArray, List.set_cons_zero, List.set_cons_succ] at hF
                generalize uF 15 = x121 at h121 hF
                obtain rfl : x121 = (.pointer (some ⟨gu, L2 * 32, none⟩)) := h121
                subst hF
                go_wp2_with (((with_reducible show wpList _ _ _ (Oper.mk _ (Op.load _ _) _ _ _ _ :: _) _ _); refine wpList_load_agg (by rfl) 28 (.tmp 121) rfl gu (L2 * 32) rfl (arr8 u0) agg44 (by rw [size_arr8, hu0]) (fun j v hv => (hC.below.cell (show (⟨gu, L2 * 32 + j, none⟩ : Addr).block < W'.heap.size from hguW)).trans (dU0.out j v hv)) ?_))
                exact ⟨rfl, rfl, (Below.refl _ _), rfl⟩
              · intro lF vF uF W hC' hU aF hF
                have hC : (J2 W' 62 (arr8 (z8' 64)) (arr8 (t0 ++ t1)) 24 25 26) lF vF W := hC'
                clear hC'
                simp only [puts] at hF
                subst hF
                have d1 : W.cell? ⟨gU, 0, none⟩ = some (.slice (some ⟨gu, 0, none⟩) 32 c9) := (hC.below.cell (p := ⟨gU, 0, none⟩) hgUW).trans DgU.out
                go_wp2_with (fail)
                exact ⟨rfl, rfl, (Below.refl _ _), rfl⟩
              · intro lF vF uF W hC' hU aF hF
                have hC : (J2 W' 62 (arr8 (z8' 64)) (arr8 (t0 ++ t1)) 24 25 26) lF vF W := hC'
                clear hC'
                simp only [puts] at hF
                subst hF
                go_wp2_with (fail)
                exact ⟨rfl, rfl, (Below.refl _ _), rfl⟩
              · intro lF vF uF W hC' hU aF hF
                have hC : (J2 W' 62 (arr8 (z8' 64)) (arr8 (t0 ++ t1)) 24 25 26) lF vF W := hC'
                clear hC'
                have h124 : (Det (.int .i64 (i : Int))) (uF 18) W := hU.1
                clear hU
                simp only [puts, Act.put, List.setIfInBounds_toArray, List.set_cons_zero, List.set_cons_succ] at hF
                generalize uF 18 = x124 at h124 hF
                obtain rfl : x124 = (.int .i64 (i : Int)) := h124
                subst hF
                go_wp2_with (fail)
                exact ⟨rfl, rfl, (Below.refl _ _), rfl⟩
              · intro lF vF uF W hC' hU aF hF
                have hC : (J2 W' 62 (arr8 (z8' 64)) (arr8 (t0 ++ t1)) 24 25 26) lF vF W := hC'
                clear hC'
                have h125 : (Det (.int .i64 (L2 : Int))) (uF 19) W := hU.1
                clear hU
                simp only [puts, Act.put, List.setIfInBounds_toArray, List.set_cons_zero, List.set_cons_succ] at hF
                generalize uF 19 = x125 at h125 hF
                obtain rfl : x125 = (.int .i64 (L2 : Int)) := h125
                subst hF
                go_wp2_with (fail)
                exact ⟨rfl, rfl, (Below.refl _ _), rfl⟩
              · intro lF vF uF W hC' hU aF hF
                have hC : (J2 W' 62 (arr8 (z8' 64)) (arr8 (t0 ++ t1)) 24 25 26) lF vF W := hC'
                clear hC'
                have h123 : (Det (.slice (some ⟨gu, 0, none⟩) 32 c9)) (uF 17) W := hU.1
                have h126 : (Det (.int .i64 (M2 : Int))) (uF 20) W := hU.2.1
                clear hU
                simp only [puts, Act.put, List.setIfInBounds_toArray, List.set_cons_zero, List.set_cons_succ] at hF
                generalize uF 17 = x123 at h123 hF
                generalize uF 20 = x126 at h126 hF
                obtain rfl : x123 = (.slice (some ⟨gu, 0, none⟩) 32 c9) := h123
                obtain rfl : x126 = (.int .i64 (M2 : Int)) := h126
                subst hF
                go_wp2_with (fail)
                exact ⟨rfl, rfl, (Below.refl _ _), rfl⟩
              · intro lF vF uF W hC' hU aF hF
                have hC : (J2 W' 62 (arr8 (z8' 64)) (arr8 (t0 ++ t1)) 24 25 26) lF vF W := hC'
                clear hC'
                have h127 : (Det (.pointer (some ⟨gu, M2 * 32, none⟩))) (uF 21) W := hU.1
                clear hU
                simp only [puts, Act.put, List.setIfInBounds_toArray, List.set_cons_zero, List.set_cons_succ] at hF
                generalize uF 21 = x127 at h127 hF
                obtain rfl : x127 = (.pointer (some ⟨gu, M2 * 32, none⟩)) := h127
                subst hF
                go_wp2_with (((with_reducible show wpList _ _ _ (Oper.mk _ (Op.load _ _) _ _ _ _ :: _) _ _); refine wpList_load_agg (by rfl) 28 (.tmp 127) rfl gu (M2 * 32) rfl (arr8 u1) agg44 (by rw [size_arr8, hu1]) (fun j v hv => (hC.below.cell (show (⟨gu, M2 * 32 + j, none⟩ : Addr).block < W'.heap.size from hguW)).trans (dU1.out j v hv)) ?_))
                exact ⟨rfl, rfl, (Below.refl _ _), rfl⟩
              · intro lF vF uF W hC' hU aF hF
                have hC : (J2 W' 62 (arr8 (z8' 64)) (arr8 (t0 ++ t1)) 24 25 26) lF vF W := hC'
                clear hC'
                have h122 : (Det (.agg (arr8 u0))) (uF 16) W := hU.1
                have h128 : (Det (.agg (arr8 u1))) (uF 22) W := hU.2.1
                clear hU
                simp only [puts, Act.put, List.setIfInBounds_toArray, List.set_cons_zero, List.set_cons_succ] at hF
                generalize uF 16 = x122 at h122 hF
                generalize uF 22 = x128 at h128 hF
                obtain rfl : x122 = (.agg (arr8 u0)) := h122
                obtain rfl : x128 = (.agg (arr8 u1)) := h128
                subst hF
                go_wp2_with (((with_reducible show wpList _ _ _ (Oper.mk _ (Op.build _ _) _ _ _ _ :: _) _ _); refine wpList_build (by rfl) 62 _ rfl #[(0, .agg (arr8 u0)), (1, .agg (arr8 u1))] (by simp only [List.map_toArray, List.map_cons, List.map_nil]; rfl) _ (buildPair u0 u1 hu0 hu1 _) ?_))
                exact ⟨rfl, rfl, (Below.refl _ _), rfl⟩
              · intro lF uF W hC' hun hpre hU aF hF
                have hC : (J2 W' 62 (arr8 (z8' 64)) (arr8 (t0 ++ t1)) 24 25 26) lF uF W := hC'
                clear hC'
                simp only [puts] at hF
                subst hF
                go_wp2_with (((with_reducible show wpList _ _ _ (Oper.mk _ (Op.alloc _) _ _ _ _ :: _) _ _); refine wpList_alloc_agg (by rfl) 62 rfl (arr8 (z8' 64)) zeroPair ?_))
                exact ⟨rfl, rfl, trivial, trivial, J2.alA (by decide) (by decide) (by decide) hC hun⟩
              · intro lF uF W hC' hun hpre hU aF hF
                have hC : (J2 W' 62 (arr8 (z8' 64)) (arr8 (t0 ++ t1)) 24 25 26) lF uF W := hC'
                clear hC'
                simp only [puts] at hF
                subst hF
                go_wp2_with (((with_reducible show wpList _ _ _ (Oper.mk _ (Op.alloc _) _ _ _ _ :: _) _ _); refine wpList_alloc_agg (by rfl) 62 rfl (arr8 (z8' 64)) zeroPair ?_))
                exact ⟨rfl, rfl, trivial, trivial, J2.alB (by decide) (by decide) (by decide) hC hun⟩
              · intro lF uF W hC' hun hpre hU aF hF
                have hC : (J2 W' 62 (arr8 (z8' 64)) (arr8 (t0 ++ t1)) 24 25 26) lF uF W := hC'
                clear hC'
                have h22 : Any (uF 24) W := hU.1
                have h117 : (Det (.agg (arr8 (t0 ++ t1)))) (uF 11) W := hU.2.1
                clear hU
                simp only [puts, Act.put, List.setIfInBounds_toArray, List.set_cons_zero, List.set_cons_succ] at hF
                obtain ⟨x22, e22⟩ : ∃ x, x = uF 24 := ⟨_, rfl⟩
                rw [← e22] at h22 hF
                obtain ⟨x117, e117⟩ : ∃ x, x = uF 11 := ⟨_, rfl⟩
                rw [← e117] at h117 hF
                obtain rfl : x117 = (.agg (arr8 (t0 ++ t1))) := h117
                subst hF
                obtain ⟨g22, eg22, bg22⟩ := hC.getA (hpre 24 (by decide)) hun
                obtain rfl : x22 = .pointer (some ⟨g22, 0, none⟩) := e22.trans eg22
                go_wp2_with (((with_reducible show wpList _ _ _ (Oper.mk none (Op.store _ _ _) _ _ _ _ :: _) _ _); refine wpList_store8 (by rfl) 62 (.tmp 22) (.tmp 117) rfl g22 rfl (t0 ++ t1) rfl aggPair ht01 _ _ bg22 (by rw [size_arr8, len_z8']) ?_; intro W9 k9 q9 s9))
                exact ⟨rfl, rfl, trivial, trivial, J2.st (by decide) (by decide) hC (hpre 24 (by decide)) (hpre 25 (by decide)) eg22 k9 q9⟩
            intro uF W7 hC' hU aF hF
            obtain ⟨lF, hlF, hCW7⟩ := hC'
            obtain ⟨gA, gB, eA, eB, hAB, hA0, hB0, bA, bB, hB7⟩ := J2.fin hCW7 (hlF 24 (by omega)) (hlF 25 (by omega)) (hlF 26 (by omega))
            clear hCW7 hlF
            have h129 : (Det (.agg (arr8 (u0 ++ u1)))) (uF 23) W7 := hU.2.2.2.2.2.2.2.2.2.2.2.2.2.2.2.2.2.2.2.2.2.2.2.1
            have h22 : (Any) (uF 24) W7 := hU.2.2.2.2.2.2.2.2.2.2.2.2.2.2.2.2.2.2.2.2.2.2.2.2.1
            have h23 : (Any) (uF 25) W7 := hU.2.2.2.2.2.2.2.2.2.2.2.2.2.2.2.2.2.2.2.2.2.2.2.2.2.1
            clear hU
            simp only [List.take_succ_cons, List.take_zero, puts, Act.put, List.setIfInBounds_toArray, List.set_cons_zero, List.set_cons_succ] at hF
            generalize uF 0 = x106 at  hF
            generalize uF 1 = x107 at  hF
            generalize uF 2 = x108 at  hF
            generalize uF 3 = x109 at  hF
            generalize uF 4 = x110 at  hF
            generalize uF 5 = x111 at  hF
            generalize uF 6 = x112 at  hF
            generalize uF 7 = x113 at  hF
            generalize uF 8 = x114 at  hF
            generalize uF 9 = x115 at  hF
            generalize uF 10 = x116 at  hF
            generalize uF 11 = x117 at  hF
            generalize uF 12 = x118 at  hF
            generalize uF 13 = x119 at  hF
            generalize uF 14 = x120 at  hF
            generalize uF 15 = x121 at  hF
            generalize uF 16 = x122 at  hF
            generalize uF 17 = x123 at  hF
            generalize uF 18 = x124 at  hF
            generalize uF 19 = x125 at  hF
            generalize uF 20 = x126 at  hF
            generalize uF 21 = x127 at  hF
            generalize uF 22 = x128 at  hF
            generalize uF 23 = x129 at h129  hF
            generalize uF 24 = x22 at h22 eA hF
            generalize uF 25 = x23 at h23 eB hF
            obtain rfl : x129 = (.agg (arr8 (u0 ++ u1))) := h129
            subst hF
            simp only [List.drop_succ_cons, List.drop_zero]
            subst eA
            subst eB
            refine wpListIn_of (free_rd l') (fun ⟨_, _, h⟩ => h) rfl ?_
            refine wpList_store8 (by rfl) 62 (.tmp 23) (.tmp 129) rfl gB rfl (u0 ++ u1) rfl aggPair hu01 _ _ bB (by rw [size_arr8, len_z8']) ?_
            intro W8 bB8 q8 s8
            simp only [Act.put, List.setIfInBounds_toArray, List.set_cons_succ, List.set_cons_zero]
            refine wpList_nil ?_
            refine HK3.out _ _ ?_
            have hB8 : Below W'.heap.size W' W8 := hB7.grown q8 hB7.size (fun k hk => by cases hk; exact hB0)
            have hz8w := hB8.size
            have HB8 := Lib.hid hB8
            have BA8 := Lib.hid (bA.grown q8 (by simpa using hAB))
            have BB8 := Lib.hid bB8
            have BW8 := Lib.hid (BW1.out.below hB8 BW1.out.lt)
            have BN8 := Lib.hid (BN1.out.below hB8 BN1.out.lt)
            have BR8 := Lib.hid (BR1'.out.below hB8 BR1'.out.lt)
            have HS8 := Lib.hid (HSX.out.on hB8)
            have HKP8 := Lib.hid (show Kept O' O' W' W8 from Kept.below hB8)
            have DgI8 := Lib.hid ((hB8.cell (p := ⟨gI, 0, none⟩) (show gI < W'.heap.size from hgIW)).trans DgI.out)
            have DgK8 := Lib.hid ((hB8.cell (p := ⟨gK, 0, none⟩) (show gK < W'.heap.size from hgKW)).trans DgK.out)
            have hWW := BW1.out.lt
            have hNW := BN1.out.lt
            have hWA : gW ≠ gA := by omega
            have hNA : gN ≠ gA := by omega
            have hWB : gW ≠ gB := by omega
            have hNB : gN ≠ gB := by omega
            obtain ⟨dd, hdd⟩ : ∃ dd, dd = 3 - y := ⟨_, rfl⟩
            have H3D := Lib.hid (show (3 : Int) - (dd : Int) = (y : Int) by omega)
            have HLV := Lib.hid (show 2 ^ dd ≤ i ∧ i < 2 ^ (dd + 1) by
              have h1 := HI.out
              rw [pathAt, show ((kk : Int)).toNat = kk from rfl] at h1
              rcases (show y = 0 ∨ y = 1 ∨ y = 2 ∨ y = 3 by omega) with rfl | rfl | rfl | rfl <;> (subst hdd; simp at h1 ⊢; omega))
            obtain ⟨sq, hsq⟩ : ∃ q, q = kk / 2 ^ y := ⟨_, rfl⟩
            have HSQ := Lib.hid hsq
            have HSH := Lib.hid (show (kk : Int) / 2 ^ y = (sq : Int) by rw [hsq, Int.natCast_ediv, Int.natCast_pow]; rfl)
            have hsq16 : sq < 16 := by rw [hsq]; exact Nat.lt_of_le_of_lt (Nat.div_le_self _ _) hkn
            have hsdq : sd = sq % 2 := by
              rw [HSD.out, hsq, pathAt, show ((kk : Int)).toNat = kk from rfl]
              rcases (show y = 0 ∨ y = 1 ∨ y = 2 ∨ y = 3 by omega) with rfl | rfl | rfl | rfl <;> (simp; omega)
            have HAN := Lib.hid (show bits .and .i64 (sq : Int) 1 = (sd : Int) by rw [hsdq]; exact and1 sq hsq16)
            clear hsdq
            have hdd4 : dd ≤ 4 := by omega
            have hdd9 : (dd : Int) ≤ 4 := by omega
            have hy3 : (y : Int) ≤ 3 := by omega
            have hy0 : (0 : Int) ≤ (y : Int) := by omega
            clear hsq hdd bA bB8 q8 s8 bB hB7 dT0 dT1 dU0 dU1 DgT DgU DgI hB8
            refine wpIn_seq_k fun K4 hK4 => ?_
            have HK4 := Lib.hid hK4
            clear hK4
            refine wpIn_region_rel (free_rd l') rfl 8 (fun W W' => Below W.heap.size W W') (fun W => Below W8.heap.size W8 W)
              [Det (.int .i64 (kk : Int)), Det (.int .i64 (i : Int)), Det (.int .i64 (dd : Int)), Det (.int .i64 (y : Int)), Det (.int .u64 (y : Int)), Det (.int .i64 (sq : Int)), Det (.int .i64 (sd : Int)), Det (.int .i64 (sd : Int))]
              [[], [], [(1, some 131)], [(2, some 132)], [(3, some 133)], [(0, some 130), (4, some 134)], [(5, some 135)], [(6, some 136)]]
              [[], [], [1], [1, 2], [1, 2, 3], [0, 1, 2, 3, 4], [0, 1, 2, 3, 4, 5], [0, 1, 2, 3, 4, 5, 6]]
              [(0, some 130), (1, some 131), (2, some 132), (3, some 133), (4, some 134), (5, some 135), (6, some 136), (7, some 24)] (by kernel_rfl) (by kernel_rfl) (by kernel_rfl) (fun W W' h1 h2 => h1.trans (h2.mono h1.size)) ((Below.refl _ _).drew) ?_ ?_ ?_
            · exact (AllMono.cons Det.later (AllMono.cons Det.later (AllMono.cons Det.later (AllMono.cons Det.later (AllMono.cons Det.later (AllMono.cons Det.later (AllMono.cons Det.later (AllMono.cons Det.later AllMono.nil))))))))
            · refine AllOb.cons ?_ (AllOb.cons ?_ (AllOb.cons ?_ (AllOb.cons ?_ (AllOb.cons ?_ (AllOb.cons ?_ (AllOb.cons ?_ (AllOb.cons ?_ (AllOb.nil))))))))
              · intro uF W hC' hU aF hF
                have hC : Below W8.heap.size W8 W := hC'
                clear hC'
                simp only [puts] at hF
                subst hF
                have d1 : W.cell? ⟨gI, 0, none⟩ = some (.int .i64 (kk : Int)) := (hC.cell (p := ⟨gI, 0, none⟩) (by show gI < W8.heap.size; omega)).trans DgI8.out
                go_wp2_with (fail)
                exact ⟨rfl, rfl, (Below.refl _ _), rfl⟩
              · intro uF W hC' hU aF hF
                have hC : Below W8.heap.size W8 W := hC'
                clear hC'
                simp only [puts] at hF
                subst hF
                go_wp2_with (fail)
                exact ⟨rfl, rfl, (Below.refl _ _), rfl⟩
              · intro uF W hC' hU aF hF
                have hC : Below W8.heap.size W8 W := hC'
                clear hC'
                have h131 : (Det (.int .i64 (i : Int))) (uF 1) W := hU.1
                clear hU
                simp only [puts, Act.put, List.setIfInBounds_toArray, List.set_cons_zero, List.set_cons_succ] at hF
                generalize uF 1 = x131 at h131 hF
                obtain rfl : x131 = (.int .i64 (i : Int)) := h131
                subst hF
                go_wp2_with ((go_at_call 27; refine (level_c dd i HLV.out.1 HLV.out.2 (by omega)).mono ?_; rintro e W1 ⟨rfl, hb⟩))
                exact ⟨rfl, rfl, hb, rfl⟩
              · intro uF W hC' hU aF hF
                have hC : Below W8.heap.size W8 W := hC'
                clear hC'
                have h132 : (Det (.int .i64 (dd : Int))) (uF 2) W := hU.1
                clear hU
                simp only [puts, Act.put, List.setIfInBounds_toArray, List.set_cons_zero, List.set_cons_succ] at hF
                generalize uF 2 = x132 at h132 hF
                obtain rfl : x132 = (.int .i64 (dd : Int)) := h132
                subst hF
                have h3d := H3D.out
                go_wp2_with (fail)
                exact ⟨rfl, rfl, (Below.refl _ _), rfl⟩
              · intro uF W hC' hU aF hF
                have hC : Below W8.heap.size W8 W := hC'
                clear hC'
                have h133 : (Det (.int .i64 (y : Int))) (uF 3) W := hU.1
                clear hU
                simp only [puts, Act.put, List.setIfInBounds_toArray, List.set_cons_zero, List.set_cons_succ] at hF
                generalize uF 3 = x133 at h133 hF
                obtain rfl : x133 = (.int .i64 (y : Int)) := h133
                subst hF
                go_wp2_with (fail)
                exact ⟨rfl, rfl, (Below.refl _ _), rfl⟩
              · intro uF W hC' hU aF hF
                have hC : Below W8.heap.size W8 W := hC'
                clear hC'
                have h130 : (Det (.int .i64 (kk : Int))) (uF 0) W := hU.1
                have h134 : (Det (.int .u64 (y : Int))) (uF 4) W := hU.2.1
                clear hU
                simp only [puts, Act.put, List.setIfInBounds_toArray, List.set_cons_zero, List.set_cons_succ] at hF
                generalize uF 0 = x130 at h130 hF
                generalize uF 4 = x134 at h134 hF
                obtain rfl : x130 = (.int .i64 (kk : Int)) := h130
                obtain rfl : x134 = (.int .u64 (y : Int)) := h134
                subst hF
                go_wp2_with (fail)
                exact ⟨rfl, rfl, (Below.refl _ _), congrArg (Value.int .i64) HSH.out⟩
              · intro uF W hC' hU aF hF
                have hC : Below W8.heap.size W8 W := hC'
                clear hC'
                have h135 : (Det (.int .i64 (sq : Int))) (uF 5) W := hU.1
                clear hU
                simp only [puts, Act.put, List.setIfInBounds_toArray, List.set_cons_zero, List.set_cons_succ] at hF
                generalize uF 5 = x135 at h135 hF
                obtain rfl : x135 = (.int .i64 (sq : Int)) := h135
                subst hF
                go_wp2_with (fail)
                exact ⟨rfl, rfl, (Below.refl _ _), congrArg (Value.int .i64) HAN.out⟩
              · intro uF W hC' hU aF hF
                have hC : Below W8.heap.size W8 W := hC'
                clear hC'
                have h136 : (Det (.int .i64 (sd : Int))) (uF 6) W := hU.1
                clear hU
                simp only [puts, Act.put, List.setIfInBounds_toArray, List.set_cons_zero, List.set_cons_succ] at hF
                generalize uF 6 = x136 at h136 hF
                obtain rfl : x136 = (.int .i64 (sd : Int)) := h136
                subst hF
                go_wp2_with (fail)
                exact ⟨rfl, rfl, (Below.refl _ _), rfl⟩
            intro uF W9 hC' hU aF hF
            have hCW9 : Below W8.heap.size W8 W9 := hC'
            clear hC'
            have h24 : (Det (.int .i64 (sd : Int))) (uF 7) W9 := hU.2.2.2.2.2.2.2.1
            clear hU
            simp only [List.take_succ_cons, List.take_zero, puts, Act.put, List.setIfInBounds_toArray, List.set_cons_zero, List.set_cons_succ] at hF
            generalize uF 0 = x130 at hF
            generalize uF 1 = x131 at hF
            generalize uF 2 = x132 at hF
            generalize uF 3 = x133 at hF
            generalize uF 4 = x134 at hF
            generalize uF 5 = x135 at hF
            generalize uF 6 = x136 at hF
            generalize uF 7 = x24 at h24 hF
            obtain rfl : x24 = (.int .i64 (sd : Int)) := h24
            subst hF
            simp only [List.drop_succ_cons, List.drop_zero]
            refine wpListIn_of (free_rd l') (fun ⟨_, _, h⟩ => h) rfl ?_
            refine wpList_nil ?_
            refine HK4.out _ _ ?_
            have hz9 := hCW9.size
            have hB9 : Below W'.heap.size W' W9 := HB8.out.trans (hCW9.mono hz8w)
            have BA9 := Lib.hid (BA8.out.below hCW9 BA8.out.lt)
            have BB9 := Lib.hid (BB8.out.below hCW9 BB8.out.lt)
            have BW9 := Lib.hid (BW8.out.below hCW9 BW8.out.lt)
            have BN9 := Lib.hid (BN8.out.below hCW9 BN8.out.lt)
            have hsd0 : (0 : Int) ≤ (sd : Int) := by omega
            have hsdI : (sd : Int) < 2 := by omega
            have HB9 := Lib.hid hB9
            clear hCW9 hB9
            refine wpIn_seq_k fun K5 hK5 => ?_
            have HK5 := Lib.hid hK5
            clear hK5
            refine wpIn_region_relS (free_rd l') rfl 6 (fun _ _ => True) (fun W W' => Below W.heap.size W W') 5 (C24 W9 62 gA (arr8 (t0 ++ t1)) (arr8 PA))
              [Det (.int .i64 (sd : Int)), Det (.int .i64 (sd : Int)), Det (.agg (arr8 was)), Det (.agg (arr8 now)), Det (.pointer (some ⟨gA, sd * 32, none⟩)), Any, Any, Any]
              [[], [], [], [], [(0, some 137)], [(4, some 141), (2, some 139)], [(1, some 138)], [(6, some 142), (3, some 140)]]
              [[], [], [], [], [0, 2], [0, 2, 4], [0, 1, 2, 3, 4, 5], [0, 1, 2, 3, 4, 5, 6]]
              [(0, some 137), (1, some 138), (2, some 139), (3, some 140), (4, some 141), (5, none), (6, some 142), (7, none)] (by kernel_rfl) (by kernel_rfl) (by kernel_rfl) (fun b W W1 h1 h2 => C24.step h1 h2) (by decide) (C24.start BA9.out) ?_ ?_ ?_
            · exact (AllMono.cons (Det.laterT trivial) (AllMono.cons (Det.laterT trivial) (AllMono.cons (Det.laterT trivial) (AllMono.cons (Det.laterT trivial) (AllMono.cons (Det.laterT trivial) (AllMono.cons (Any.laterT trivial) (AllMono.cons (Any.laterT trivial) (AllMono.cons (Any.laterT trivial) AllMono.nil))))))))
            · refine AllObS.cons (by decide) ?_ (AllObS.cons (by decide) ?_ (AllObS.cons (by decide) ?_ (AllObS.cons (by decide) ?_ (AllObS.cons (by decide) ?_ (AllObS.call ?_ (AllObS.nil))))))
              · intro bF uF W hC' hU aF hF
                have hC : C24 W9 62 gA (arr8 (t0 ++ t1)) (arr8 PA) bF W := hC'
                clear hC'
                simp only [puts] at hF
                subst hF
                go_wp2_with (fail)
                exact ⟨rfl, rfl, (Below.refl _ _), rfl⟩
              · intro bF uF W hC' hU aF hF
                have hC : C24 W9 62 gA (arr8 (t0 ++ t1)) (arr8 PA) bF W := hC'
                clear hC'
                simp only [puts] at hF
                subst hF
                go_wp2_with (fail)
                exact ⟨rfl, rfl, (Below.refl _ _), rfl⟩
              · intro bF uF W hC' hU aF hF
                have hC : C24 W9 62 gA (arr8 (t0 ++ t1)) (arr8 PA) bF W := hC'
                clear hC'
                simp only [puts] at hF
                subst hF
                go_wp2_with (((with_reducible show wpList _ _ _ (Oper.mk _ (Op.load _ _) _ _ _ _ :: _) _ _); refine wpList_load_whole (by rfl) 28 (.tmp 19) rfl gW rfl (arr8 was) agg44 (by rw [size_arr8, hlw]) 28 (hC.1.blk BW9.out (by simpa using hWA)) ?_))
                exact ⟨rfl, rfl, (Below.refl _ _), rfl⟩
              · intro bF uF W hC' hU aF hF
                have hC : C24 W9 62 gA (arr8 (t0 ++ t1)) (arr8 PA) bF W := hC'
                clear hC'
                simp only [puts] at hF
                subst hF
                go_wp2_with (((with_reducible show wpList _ _ _ (Oper.mk _ (Op.load _ _) _ _ _ _ :: _) _ _); refine wpList_load_whole (by rfl) 28 (.tmp 20) rfl gN rfl (arr8 now) agg44 (by rw [size_arr8, hln]) 28 (hC.1.blk BN9.out (by simpa using hNA)) ?_))
                exact ⟨rfl, rfl, (Below.refl _ _), rfl⟩
              · intro bF uF W hC' hU aF hF
                have hC : C24 W9 62 gA (arr8 (t0 ++ t1)) (arr8 PA) bF W := hC'
                clear hC'
                have h137 : (Det (.int .i64 (sd : Int))) (uF 0) W := hU.1
                clear hU
                simp only [puts, Act.put, List.setIfInBounds_toArray, List.set_cons_zero, List.set_cons_succ] at hF
                generalize uF 0 = x137 at h137 hF
                obtain rfl : x137 = (.int .i64 (sd : Int)) := h137
                subst hF
                go_wp2_with (fail)
                exact ⟨rfl, rfl, (Below.refl _ _), rfl⟩
              · intro uF W hC' hU aF hF
                have hC : C24 W9 62 gA (arr8 (t0 ++ t1)) (arr8 PA) false W := hC'
                clear hC'
                have h141 : (Det (.pointer (some ⟨gA, sd * 32, none⟩))) (uF 4) W := hU.1
                have h139 : (Det (.agg (arr8 was))) (uF 2) W := hU.2.1
                clear hU
                simp only [puts, Act.put, List.setIfInBounds_toArray, List.set_cons_zero, List.set_cons_succ] at hF
                generalize uF 4 = x141 at h141 hF
                generalize uF 2 = x139 at h139 hF
                obtain rfl : x141 = (.pointer (some ⟨gA, sd * 32, none⟩)) := h141
                obtain rfl : x139 = (.agg (arr8 was)) := h139
                subst hF
                go_wp2_with (((with_reducible show wpList _ _ _ (Oper.mk none (Op.store _ _ _) _ _ _ _ :: _) _ _); refine wpList_storeP (by rfl) 28 (.tmp 141) (.tmp 139) rfl gA sd rfl was rfl agg44 hlw hC.was ht01 hsd2 ?_; intro W1 k1 q1 s1))
                exact ⟨rfl, rfl, (C24.call hC (by rw [HPA.out]; exact k1) q1), trivial⟩
            intro uF W10 hC' hU aF hF
            have hCW10 : C24 W9 62 gA (arr8 (t0 ++ t1)) (arr8 PA) true W10 := hC'
            clear hC'
            have h138 : (Det (.int .i64 (sd : Int))) (uF 1) W10 := hU.2.1
            have h140 : (Det (.agg (arr8 now))) (uF 3) W10 := hU.2.2.2.1
            clear hU
            simp only [List.take_succ_cons, List.take_zero, puts, Act.put, List.setIfInBounds_toArray, List.set_cons_zero, List.set_cons_succ] at hF
            generalize uF 0 = x137 at hF
            generalize uF 1 = x138 at h138 hF
            generalize uF 2 = x139 at hF
            generalize uF 3 = x140 at h140 hF
            generalize uF 4 = x141 at hF
            obtain rfl : x138 = (.int .i64 (sd : Int)) := h138
            obtain rfl : x140 = (.agg (arr8 now)) := h140
            subst hF
            simp only [List.drop_succ_cons, List.drop_zero]
            have bA10 := hCW10.now
            have bB10 := hCW10.1.blk BB9.out (by simpa using hAB.symm)
            have hB10 : Below W'.heap.size W' W10 := HB9.out.trans (hCW10.2.2.mono hA0)
            have hz10 := hB10.size
            clear hCW10
            refine wpListIn_of (free_rd l') (fun ⟨_, _, h⟩ => h) rfl ?_
            have HB10 := Lib.hid hB10
            have BA10 := Lib.hid bA10
            clear hB10 bA10
            go_wp2_with ((with_reducible show wpList _ _ _ (Oper.mk none (Op.store _ _ _) _ _ _ _ :: _) _ _); refine wpList_storeP (by rfl) 28 (.tmp 142) (.tmp 140) rfl gB sd rfl now rfl agg44 hln bB10 hu01 hsd2 ?_; intro W11 k11 q11 s11)
            refine HK5.out _ _ ?_
            have hB11 : Below W'.heap.size W' W11 := HB10.out.grown q11 hz10 (fun k hk => by cases hk; exact hB0)
            have hz11 := hB11.size
            have BA11 := Lib.hid (BA10.out.grown q11 (by simpa using hAB))
            have BB11 := Lib.hid (show Blk W11 gB 62 (arr8 PB) by rw [HPB.out]; exact k11)
            have BW11 := Lib.hid (BW1.out.below hB11 BW1.out.lt)
            have BN11 := Lib.hid (BN1.out.below hB11 BN1.out.lt)
            have BR11 := Lib.hid (BR1'.out.below hB11 BR1'.out.lt)
            have HS11 := Lib.hid (HSX.out.on hB11)
            have HKP11 := Lib.hid (show Kept O' O' W' W11 from Kept.below hB11)
            have DgK11 := Lib.hid ((hB11.cell (p := ⟨gK, 0, none⟩) (show gK < W'.heap.size from hgKW)).trans DgK.out)
            have HK11 := Lib.hid ((H0K.out.below HS11.out.2).more HS11.out.2.size)
            clear k11 q11 s11 hB11 bB10 DgK
            have hgKW11 : gK < W11.heap.size := by omega
            refine wpIn_seq_k fun K6 hK6 => ?_
            have HK6 := Lib.hid hK6
            clear hK6
            refine wpIn_region_rel (free_rd l') rfl 14 (fun W W' => Below W.heap.size W W') (fun W => Below W11.heap.size W11 W)
              [Det (.slice A0 n0 c0), Det (.int .i64 (i : Int)), Det (.pointer (some ⟨gA, 0 * 32, none⟩)), Det (.agg (arr8 (elt PA 0))), Det (.pointer (some ⟨gA, 1 * 32, none⟩)), Det (.agg (arr8 (elt PA 1))), Det (.agg (arr8 nw)), Det (.slice A0 n0 c0), Det (.int .i64 (i : Int)), Det (.pointer (some ⟨gB, 0 * 32, none⟩)), Det (.agg (arr8 (elt PB 0))), Det (.pointer (some ⟨gB, 1 * 32, none⟩)), Det (.agg (arr8 (elt PB 1))), Det (.agg (arr8 nn)), Any, Any]
              [[], [], [], [(2, some 145)], [], [(4, some 147)], [(0, some 143), (1, some 144), (3, some 146), (5, some 148)], [], [], [], [(9, some 152)], [], [(11, some 154)], [(7, some 150), (8, some 151), (10, some 153), (12, some 155)], [(6, some 149)], [(13, some 156)]]
              [[], [], [], [2], [], [4], [0, 1, 2, 3, 4, 5], [], [], [], [9], [], [11], [0, 1, 2, 3, 4, 5, 6, 7, 8, 9, 10, 11, 12], [0, 1, 2, 3, 4, 5, 6, 7, 8, 9, 10, 11, 12, 13], [0, 1, 2, 3, 4, 5, 6, 7, 8, 9, 10, 11, 12, 13, 14]]
              [(0, some 143), (1, some 144), (2, some 145), (3, some 146), (4, some 147), (5, some 148), (6, some 149), (7, some 150), (8, some 151), (9, some 152), (10, some 153), (11, some 154), (12, some 155), (13, some 156), (14, none), (15, none)] (by kernel_rfl) (by kernel_rfl) (by kernel_rfl) (fun W W' h1 h2 => h1.trans (h2.mono h1.size)) ((Below.refl _ _).drew) ?_ ?_ ?_
            · exact (AllMono.cons Det.later (AllMono.cons Det.later (AllMono.cons Det.later (AllMono.cons Det.later (AllMono.cons Det.later (AllMono.cons Det.later (AllMono.cons Det.later (AllMono.cons Det.later (AllMono.cons Det.later (AllMono.cons Det.later (AllMono.cons Det.later (AllMono.cons Det.later (AllMono.cons Det.later (AllMono.cons Det.later (AllMono.cons Any.later (AllMono.cons Any.later AllMono.nil))))))))))))))))
            · refine AllOb.cons ?_ (AllOb.cons ?_ (AllOb.cons ?_ (AllOb.cons ?_ (AllOb.cons ?_ (AllOb.cons ?_ (AllOb.cons ?_ (AllOb.cons ?_ (AllOb.cons ?_ (AllOb.cons ?_ (AllOb.cons ?_ (AllOb.cons ?_ (AllOb.cons ?_ (AllOb.cons ?_ (AllOb.nil))))))))))))))
              · intro uF W hC' hU aF hF
                have hC : Below W11.heap.size W11 W := hC'
                clear hC'
                simp only [puts] at hF
                subst hF
                have d1 : W.cell? ⟨gK, 0, none⟩ = some (.slice A0 n0 c0) := (hC.cell (p := ⟨gK, 0, none⟩) (by show gK < W11.heap.size; omega)).trans DgK11.out
                go_wp2_with (fail)
                exact ⟨rfl, rfl, (Below.refl _ _), rfl⟩
              · intro uF W hC' hU aF hF
                have hC : Below W11.heap.size W11 W := hC'
                clear hC'
                simp only [puts] at hF
                subst hF
                go_wp2_with (fail)
                exact ⟨rfl, rfl, (Below.refl _ _), rfl⟩
              · intro uF W hC' hU aF hF
                have hC : Below W11.heap.size W11 W := hC'
                clear hC'
                simp only [puts] at hF
                subst hF
                go_wp2_with (fail)
                exact ⟨rfl, rfl, (Below.refl _ _), rfl⟩
              · intro uF W hC' hU aF hF
                have hC : Below W11.heap.size W11 W := hC'
                clear hC'
                have h145 : (Det (.pointer (some ⟨gA, 0 * 32, none⟩))) (uF 2) W := hU.1
                clear hU
                simp only [puts, Act.put, List.setIfInBounds_toArray, List.set_cons_zero, List.set_cons_succ] at hF
                generalize uF 2 = x145 at h145 hF
                obtain rfl : x145 = (.pointer (some ⟨gA, 0 * 32, none⟩)) := h145
                subst hF
                go_wp2_with (((with_reducible show wpList _ _ _ (Oper.mk _ (Op.load _ _) _ _ _ _ :: _) _ _); refine wpList_load_agg (by rfl) 28 (.tmp 145) rfl gA (0 * 32) rfl (arr8 (elt PA 0)) agg44 (by rw [size_arr8, len_elt hPA (by omega)]) (pair_cell (BA11.out.below hC BA11.out.lt) hPA 0 (by omega)) ?_))
                exact ⟨rfl, rfl, (Below.refl _ _), rfl⟩
              · intro uF W hC' hU aF hF
                have hC : Below W11.heap.size W11 W := hC'
                clear hC'
                simp only [puts] at hF
                subst hF
                go_wp2_with (fail)
                exact ⟨rfl, rfl, (Below.refl _ _), rfl⟩
              · intro uF W hC' hU aF hF
                have hC : Below W11.heap.size W11 W := hC'
                clear hC'
                have h147 : (Det (.pointer (some ⟨gA, 1 * 32, none⟩))) (uF 4) W := hU.1
                clear hU
                simp only [puts, Act.put, List.setIfInBounds_toArray, List.set_cons_zero, List.set_cons_succ] at hF
                generalize uF 4 = x147 at h147 hF
                obtain rfl : x147 = (.pointer (some ⟨gA, 1 * 32, none⟩)) := h147
                subst hF
                go_wp2_with (((with_reducible show wpList _ _ _ (Oper.mk _ (Op.load _ _) _ _ _ _ :: _) _ _); refine wpList_load_agg (by rfl) 28 (.tmp 147) rfl gA (1 * 32) rfl (arr8 (elt PA 1)) agg44 (by rw [size_arr8, len_elt hPA (by omega)]) (pair_cell (BA11.out.below hC BA11.out.lt) hPA 1 (by omega)) ?_))
                exact ⟨rfl, rfl, (Below.refl _ _), rfl⟩
              · intro uF W hC' hU aF hF
                have hC : Below W11.heap.size W11 W := hC'
                clear hC'
                have h143 : (Det (.slice A0 n0 c0)) (uF 0) W := hU.1
                have h144 : (Det (.int .i64 (i : Int))) (uF 1) W := hU.2.1
                have h146 : (Det (.agg (arr8 (elt PA 0)))) (uF 3) W := hU.2.2.1
                have h148 : (Det (.agg (arr8 (elt PA 1)))) (uF 5) W := hU.2.2.2.1
                clear hU
                simp only [puts, Act.put, List.setIfInBounds_toArray, List.set_cons_zero, List.set_cons_succ] at hF
                generalize uF 0 = x143 at h143 hF
                generalize uF 1 = x144 at h144 hF
                generalize uF 3 = x146 at h146 hF
                generalize uF 5 = x148 at h148 hF
                obtain rfl : x143 = (.slice A0 n0 c0) := h143
                obtain rfl : x144 = (.int .i64 (i : Int)) := h144
                obtain rfl : x146 = (.agg (arr8 (elt PA 0))) := h146
                obtain rfl : x148 = (.agg (arr8 (elt PA 1))) := h148
                subst hF
                go_wp2_with ((go_at_call 28; refine (node_c (HK11.out.below hC |>.more hC.size) (Nat.le_refl _) (by omega) (i : Int) (elt PA 0) (elt PA 1) (len_elt hPA (by omega)) (len_elt hPA (by omega))).mono ?_; rintro e W1 ⟨rfl, hb⟩; rw [← HNW.out]))
                exact ⟨rfl, rfl, hb, rfl⟩
              · intro uF W hC' hU aF hF
                have hC : Below W11.heap.size W11 W := hC'
                clear hC'
                simp only [puts] at hF
                subst hF
                have d1 : W.cell? ⟨gK, 0, none⟩ = some (.slice A0 n0 c0) := (hC.cell (p := ⟨gK, 0, none⟩) (by show gK < W11.heap.size; omega)).trans DgK11.out
                go_wp2_with (fail)
                exact ⟨rfl, rfl, (Below.refl _ _), rfl⟩
              · intro uF W hC' hU aF hF
                have hC : Below W11.heap.size W11 W := hC'
                clear hC'
                simp only [puts] at hF
                subst hF
                go_wp2_with (fail)
                exact ⟨rfl, rfl, (Below.refl _ _), rfl⟩
              · intro uF W hC' hU aF hF
                have hC : Below W11.heap.size W11 W := hC'
                clear hC'
                simp only [puts] at hF
                subst hF
                go_wp2_with (fail)
                exact ⟨rfl, rfl, (Below.refl _ _), rfl⟩
              · intro uF W hC' hU aF hF
                have hC : Below W11.heap.size W11 W := hC'
                clear hC'
                have h152 : (Det (.pointer (some ⟨gB, 0 * 32, none⟩))) (uF 9) W := hU.1
                clear hU
                simp only [puts, Act.put, List.setIfInBounds_toArray, List.set_cons_zero, List.set_cons_succ] at hF
                generalize uF 9 = x152 at h152 hF
                obtain rfl : x152 = (.pointer (some ⟨gB, 0 * 32, none⟩)) := h152
                subst hF
                go_wp2_with (((with_reducible show wpList _ _ _ (Oper.mk _ (Op.load _ _) _ _ _ _ :: _) _ _); refine wpList_load_agg (by rfl) 28 (.tmp 152) rfl gB (0 * 32) rfl (arr8 (elt PB 0)) agg44 (by rw [size_arr8, len_elt hPB (by omega)]) (pair_cell (BB11.out.below hC BB11.out.lt) hPB 0 (by omega)) ?_))
                exact ⟨rfl, rfl, (Below.refl _ _), rfl⟩
              · intro uF W hC' hU aF hF
                have hC : Below W11.heap.size W11 W := hC'
                clear hC'
                simp only [puts] at hF
                subst hF
                go_wp2_with (fail)
                exact ⟨rfl, rfl, (Below.refl _ _), rfl⟩
              · intro uF W hC' hU aF hF
                have hC : Below W11.heap.size W11 W := hC'
                clear hC'
                have h154 : (Det (.pointer (some ⟨gB, 1 * 32, none⟩))) (uF 11) W := hU.1
                clear hU
                simp only [puts, Act.put, List.setIfInBounds_toArray, List.set_cons_zero, List.set_cons_succ] at hF
                generalize uF 11 = x154 at h154 hF
                obtain rfl : x154 = (.pointer (some ⟨gB, 1 * 32, none⟩)) := h154
                subst hF
                go_wp2_with (((with_reducible show wpList _ _ _ (Oper.mk _ (Op.load _ _) _ _ _ _ :: _) _ _); refine wpList_load_agg (by rfl) 28 (.tmp 154) rfl gB (1 * 32) rfl (arr8 (elt PB 1)) agg44 (by rw [size_arr8, len_elt hPB (by omega)]) (pair_cell (BB11.out.below hC BB11.out.lt) hPB 1 (by omega)) ?_))
                exact ⟨rfl, rfl, (Below.refl _ _), rfl⟩
              · intro uF W hC' hU aF hF
                have hC : Below W11.heap.size W11 W := hC'
                clear hC'
                have h150 : (Det (.slice A0 n0 c0)) (uF 7) W := hU.1
                have h151 : (Det (.int .i64 (i : Int))) (uF 8) W := hU.2.1
                have h153 : (Det (.agg (arr8 (elt PB 0)))) (uF 10) W := hU.2.2.1
                have h155 : (Det (.agg (arr8 (elt PB 1)))) (uF 12) W := hU.2.2.2.1
                clear hU
                simp only [puts, Act.put, List.setIfInBounds_toArray, List.set_cons_zero, List.set_cons_succ] at hF
                generalize uF 7 = x150 at h150 hF
                generalize uF 8 = x151 at h151 hF
                generalize uF 10 = x153 at h153 hF
                generalize uF 12 = x155 at h155 hF
                obtain rfl : x150 = (.slice A0 n0 c0) := h150
                obtain rfl : x151 = (.int .i64 (i : Int)) := h151
                obtain rfl : x153 = (.agg (arr8 (elt PB 0))) := h153
                obtain rfl : x155 = (.agg (arr8 (elt PB 1))) := h155
                subst hF
                go_wp2_with ((go_at_call 28; refine (node_c (HK11.out.below hC |>.more hC.size) (Nat.le_refl _) (by omega) (i : Int) (elt PB 0) (elt PB 1) (len_elt hPB (by omega)) (len_elt hPB (by omega))).mono ?_; rintro e W1 ⟨rfl, hb⟩; rw [← HNN.out]))
                exact ⟨rfl, rfl, hb, rfl⟩
            intro uF W12 hC' hU aF hF
            have hCW12 : Below W11.heap.size W11 W12 := hC'
            clear hC'
            have h149 : (Det (.agg (arr8 nw))) (uF 6) W12 := hU.2.2.2.2.2.2.1
            have h156 : (Det (.agg (arr8 nn))) (uF 13) W12 := hU.2.2.2.2.2.2.2.2.2.2.2.2.2.1
            clear hU
            simp only [List.take_succ_cons, List.take_zero, puts, Act.put, List.setIfInBounds_toArray, List.set_cons_zero, List.set_cons_succ] at hF
            generalize uF 0 = x143 at hF
            generalize uF 1 = x144 at hF
            generalize uF 2 = x145 at hF
            generalize uF 3 = x146 at hF
            generalize uF 4 = x147 at hF
            generalize uF 5 = x148 at hF
            generalize uF 6 = x149 at h149 hF
            generalize uF 7 = x150 at hF
            generalize uF 8 = x151 at hF
            generalize uF 9 = x152 at hF
            generalize uF 10 = x153 at hF
            generalize uF 11 = x154 at hF
            generalize uF 12 = x155 at hF
            generalize uF 13 = x156 at h156 hF
            obtain rfl : x149 = (.agg (arr8 nw)) := h149
            obtain rfl : x156 = (.agg (arr8 nn)) := h156
            subst hF
            simp only [List.drop_succ_cons, List.drop_zero]
            have hz12 := hCW12.size
            have BW12 := BW11.out.below hCW12 BW11.out.lt
            have BN12 := BN11.out.below hCW12 BN11.out.lt
            have BR12 := Lib.hid (BR11.out.below hCW12 BR11.out.lt)
            have BA12 := Lib.hid (BA11.out.below hCW12 BA11.out.lt)
            have BB12 := Lib.hid (BB11.out.below hCW12 BB11.out.lt)
            have HS12 := Lib.hid (HS11.out.on hCW12)
            have HKP12 := Lib.hid (HKP11.out.trans (Kept.below (O := O') hCW12))
            clear hCW12
            refine wpListIn_of (free_rd l') (fun ⟨_, _, h⟩ => h) rfl ?_
            refine wpList_store8 (by rfl) 28 (.tmp 19) (.tmp 149) rfl gW rfl nw rfl agg44 hlnw _ _ BW12 (by rw [size_arr8, hlw]) ?_
            intro W13 k13 q13 s13
            simp only [Act.put, List.setIfInBounds_toArray, List.set_cons_succ, List.set_cons_zero]
            refine wpList_store8 (by rfl) 28 (.tmp 20) (.tmp 156) rfl gN rfl nn rfl agg44 hlnn _ _ (BN12.grown q13 (by simpa using hWN.symm)) (by rw [size_arr8, hln]) ?_
            intro W14 k14 q14 s14
            simp only [Act.put, List.setIfInBounds_toArray, List.set_cons_succ, List.set_cons_zero]
            refine wpList_nil ?_
            refine HK6.out _ _ ?_
            have BW14 := Lib.hid (k13.grown q14 (by simpa using hWN))
            have BN14 := Lib.hid k14
            have BR14 := Lib.hid ((BR12.out.grown q13 (by simpa using hWR.1.symm)).grown q14 (by simpa using hWR.2.symm))
            have BA14 := Lib.hid ((BA12.out.grown q13 (by simpa using hWA.symm)).grown q14 (by simpa using hNA.symm))
            have BB14 := Lib.hid ((BB12.out.grown q13 (by simpa using hWB.symm)).grown q14 (by simpa using hNB.symm))
            have HS14 := Lib.hid ((HS12.out.step q13 oW hwR.2.1).step q14 oN hwR.2.2)
            have HKP14 := Lib.hid ((HKP12.out.trans (Kept.grown q13 oW)).trans (Kept.grown q14 oN))
            clear k13 q13 s13 k14 q14 s14 BW12 BN12
            refine wpIn_seq_k fun K7 hK7 => ?_
            have HK7 := Lib.hid hK7
            clear hK7
            cases hE2 : (nw == nn) with
            | false =>
              have he := eq44 nw nn hlnw hlnn false hE2
              have hg := guard44
              have HE2 := Lib.hid hE2
              clear hE2
              refine wpIn_region_of (free_rd l') rfl (fun ⟨_, _, h⟩ => h) ?_
              go_wp2_with (first
                | ((with_reducible show wpList _ _ _ (Oper.mk (some 157) (Op.load _ _) _ _ _ _ :: _) _ _); refine wpList_load_whole (by rfl) 28 (.tmp 19) rfl gW rfl (arr8 nw) agg44 (by rw [size_arr8, hlnw]) 28 BW14.out ?_)
                | ((with_reducible show wpList _ _ _ (Oper.mk (some 158) (Op.load _ _) _ _ _ _ :: _) _ _); refine wpList_load_whole (by rfl) 28 (.tmp 20) rfl gN rfl (arr8 nn) agg44 (by rw [size_arr8, hlnn]) 28 BN14.out ?_))
              refine HK7.out _ _ ?_
              refine wpIn_cond_false rfl ?_
              gi_wp2
              exact ⟨O', HKP14.out, nw, nn, by rw [HPL.out]; exact HBS.out.2 (fun e => by have := HE2.out; rw [e] at this; simp at this), HS14.out, ⟨oW, oN, oR⟩, BW14.out, BN14.out, BR14.out⟩
            | true =>
              have he := eq44 nw nn hlnw hlnn true hE2
              have hg := guard44
              clear hE2
              refine wpIn_region_of (free_rd l') rfl (fun ⟨_, _, h⟩ => h) ?_
              go_wp2_with (first
                | ((with_reducible show wpList _ _ _ (Oper.mk (some 157) (Op.load _ _) _ _ _ _ :: _) _ _); refine wpList_load_whole (by rfl) 28 (.tmp 19) rfl gW rfl (arr8 nw) agg44 (by rw [size_arr8, hlnw]) 28 BW14.out ?_)
                | ((with_reducible show wpList _ _ _ (Oper.mk (some 158) (Op.load _ _) _ _ _ _ :: _) _ _); refine wpList_load_whole (by rfl) 28 (.tmp 20) rfl gN rfl (arr8 nn) agg44 (by rw [size_arr8, hlnn]) 28 BN14.out ?_))
              refine HK7.out _ _ ?_
              refine wpIn_cond_true rfl ?_
              refine wpIn_seq_k fun K8 hK8 => ?_
              have HK8 := Lib.hid hK8
              have fR := BR14.out.frozen 0
              have dR : W14.cell? ⟨gR, 0, none⟩ = some (.bool false) := by rw [BR14.out.cell]; rfl
              have he2 := eqPair PA PB hPA hPB false (by
                cases hh : (PA == PB) with
                | false => rfl
                | true => exact absurd (beq_iff_eq.1 hh) HBS.out.1)
              have hg2 := guardPair
              clear hK8 he
              refine wpIn_region_of (free_rd l') rfl (fun ⟨_, _, h⟩ => h) ?_
              go_wp2_with (first
                | ((with_reducible show wpList _ _ _ (Oper.mk (some 160) (Op.load _ _) _ _ _ _ :: _) _ _); refine wpList_load_whole (by rfl) 62 (.tmp 22) rfl gA rfl (arr8 PA) aggPair (by rw [size_arr8, hPA]) 62 BA14.out ?_)
                | ((with_reducible show wpList _ _ _ (Oper.mk (some 161) (Op.load _ _) _ _ _ _ :: _) _ _); refine wpList_load_whole (by rfl) 62 (.tmp 23) rfl gB rfl (arr8 PB) aggPair (by rw [size_arr8, hPB]) 62 BB14.out ?_))
              refine HK8.out _ _ ?_
              gi_wp2
              exact ⟨(HKP14.out.trans (Kept.setCell oR 0 _)).from_ _, rfl, ⟨O', HS14.out.step (grownBy_setCell _ gR 0 _) oR hwR.1⟩, by simpa using BR14.out.set_ 0 (.bool true)⟩
          · rintro D O' ys W' hD hys ⟨was, now, hBA, _⟩ hK
            have h5 : ys.length = 5 := by rw [hys, len_upTo]; exact if_pos ⟨by omega, by omega⟩
            rw [h5] at hBA
            exact (bind_end hkn hBA HROOT.out).elim
          · rintro D c pre W' hD _ ⟨rfl, ⟨O2, sx⟩, bR⟩ hK
            have HS := Lib.hid sx
            have HB := Lib.hid bR
            have HKK := Lib.hid hK
            have hDR : D ≠ gR := by omega
            subst ha0
            clear sx bR hK
            go_wp2_with fail
            refine ⟨by simp, .inl ⟨_, _, rfl, run_takeDeferred HKK.out, ?_⟩⟩
            refine ⟨_, res_bool rfl _ gR 4 true Try.underlying4 rfl ((World.putObj_heap_other (Ne.symm hDR)).trans HB.out), rfl, ?_⟩
            exact (calm_putObj (B := w.heap.size) (.deferred none) (by omega) HKK.out rfl).below HS.out.2 (Nat.le_refl _) (Nat.le_refl _)
theorem bound_c {w : World} {A0 A1 A2 : Option Addr} {n0 c0 n1 c1 n2 c2 : Nat} {key bs1 bs2 : List UInt8} (b : Int) (ob : UInt8) (h0 : SlB w w.heap.size A0 n0 c0 key) (h1 : SlB w w.heap.size A1 n1 c1 bs1) (h2 : SlB w w.heap.size A2 n2 c2 bs2) (m1 : n1 ≤ 1048576) (m2 : n2 ≤ 1048576) :
    Calls Try.prog 9 #[.slice A0 n0 c0, .slice A1 n1 c1, .slice A2 n2 c2, .int .i64 b, .int .u8 (ob.toNat : Int)] w fun e w' => e = .returned (.bool true) ∧ Below w.heap.size w w' := by
  by_cases h : 1000 < n0
  · exact bound_big b ob h0 h1 h2 m1 m2 h
  · exact bound_small b ob h0 h1 h2 m1 m2 h
end Go.Proofs.Ytdifepfplfkfoaa

