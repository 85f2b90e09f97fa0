/-
  login: the document's Answer, its leaves (printed by wip/gen_login15.py).
-/
import Derived.Test.YtiadfbcdopfibaaLoginRA
namespace Go.Proofs.Ytiadfbcdopfibaa
open Go.RowKit
set_option linter.unusedVariables false
set_option linter.unusedSimpArgs false
set_option maxRecDepth 100000
set_option maxHeartbeats 4000000 in
theorem ans_L1 {w : World} {gm : Nat} {tn init : Int} {At : Option Addr} {nt ct : Nat} {th : List UInt8} {Ao : Option Addr} {no co : Nat} {ou : List UInt8} {A : Option Addr} {N C : Nat} {cs : List Cv} (h : Md w gm tn init At nt ct th Ao no co ou A N C cs) (j : Nat) (hN : N = j + 1) {v : Cv} (hv : cs[j]? = some v) {S s1 : Sst} {out : Out} (hS : stf init th ou (cs.take j) = S) (hh : hnd init th ou S v.k v.n v.ds v.dr = (s1, out)) (hk : v.k = 1) (hg : ¬ (v.n = init ∧ 16 ≤ v.ds.length ∧ v.ds.length ≤ 64)) :
    Calls Try.prog 23 #[.pointer (some ⟨gm, 0, none⟩)] w (AnsP w out) := by
  have hbn := h.bn
  have hbo := h.bo
  have hS1 : stf init th ou (cs.take (j + 1)) = s1 := by rw [stf_take hv, hS, hh]
  have hSN : stf init th ou (cs.take N) = s1 := by rw [hN]; exact hS1
  have hgrl := gr_le (init := init) (th := th) (ou := ou) (cs := cs) j (by rw [h.len]; omega)
  rw [hS] at hgrl
  have hst : ∀ W, Md W gm tn init At nt ct th Ao no co ou A N C cs → Calls Try.prog 26 #[.pointer (some ⟨gm, 0, none⟩), .int .i64 (j : Int)] W fun e w' => e = .returned (.tuple #[.int .i64 S.st, .int .i64 (nxr S)]) ∧ Below W.heap.size W w' := fun W hM => by
    have := state_r j (by omega) hM
    rw [hS] at this
    exact this
  have hst1 : ∀ W, Md W gm tn init At nt ct th Ao no co ou A N C cs → Calls Try.prog 26 #[.pointer (some ⟨gm, 0, none⟩), .int .i64 (N : Int)] W fun e w' => e = .returned (.tuple #[.int .i64 s1.st, .int .i64 (nxr s1)]) ∧ Below W.heap.size W w' := fun W hM => by
    have := state_r N (Nat.le_refl _) hM
    rw [hSN] at this
    exact this
  have hgr1 : ∀ W, Md W gm tn init At nt ct th Ao no co ou A N C cs → Calls Try.prog 27 #[.pointer (some ⟨gm, 0, none⟩), .int .i64 (N : Int)] W fun e w' => e = .returned (.int .i64 (s1.gr : Int)) ∧ Below W.heap.size W w' := fun W hM => by
    have := greeted_r hM N (Nat.le_refl _)
    rw [hSN] at this
    exact this
  obtain ⟨u0, hu0⟩ : ∃ u, u = w.alloc (.cells #[.int .i64 0, .int .i64 0, .int .i64 0, .slice none 0 0] 36) := ⟨_, rfl⟩
  obtain ⟨g2, hg2⟩ : ∃ g, g = w.heap.size := ⟨_, rfl⟩
  have b2 : Blk u0 g2 36 #[.int .i64 0, .int .i64 0, .int .i64 0, .slice none 0 0] := by rw [hu0, hg2]; exact Blk.new _ _ _
  have hb0 : Below w.heap.size w u0 := by rw [hu0]; exact below_alloc _ _
  have hz0 := hb0.size
  have hM0 := h.below hb0
  obtain ⟨gb, off, rfl, hgb, hok, hcell⟩ := hM0.at_ hv
  have hlv : v.ds.length = v.m := hok.1.len
  have hdl : v.dr.length = 32 := hok.2.2
  have hrl : v.row.length = 36 := by simp [Cv.row, hdl]
  have hrz : v.row.toArray.size = 36 := by simp [hrl]
  have hone : ∀ x ∈ v.row, x.oneCell' = true := by
    intro x hx
    rw [Cv.row, List.mem_append] at hx
    rcases hx with hx | hx
    · simp only [List.mem_cons, List.not_mem_nil, or_false] at hx
      rcases hx with rfl | rfl | rfl | rfl <;> rfl
    · exact b8_one _ x hx
  have hN1 : (N : Int) - 1 = (j : Int) := by omega
  have hj0 : (0 : Int) ≤ (j : Int) := by omega
  have hjN : (j : Int) < (N : Int) := by omega
  have d04 : u0.cell? ⟨gm, 4, none⟩ = some (.slice (some ⟨gb, off, none⟩) N C) := by rw [hM0.blk.cell]; rfl
  have HC := Lib.hid (show ∀ (q : Nat) x, v.row.toArray[q]? = some x → u0.cell? ⟨gb, off + j * 36 + q, none⟩ = some x from fun q x hq => hcell q x (by simpa using hq))
  have b7 := Blk.new u0 58 zCame
  have hb07 := below_alloc u0 (.cells zCame 58)
  have hg2' : g2 < u0.heap.size := b2.lt
  have HB2 := Lib.hid b2
  have HB7 := Lib.hid b7
  have HM := Lib.hid hM0
  have HU0 := Lib.hid hu0
  have HG2 := Lib.hid hg2
  have HST := Lib.hid hst
  have HST1 := Lib.hid hst1
  have HGR1 := Lib.hid hgr1
  have HRZ := Lib.hid hrz
  have HRL := Lib.hid hrl
  have HONE := Lib.hid hone
  have HLV := Lib.hid hlv
  have hsv : ∀ W, Md W gm tn init At nt ct th Ao no co ou (some ⟨gb, off, none⟩) N C cs → SlB W W.heap.size v.A v.m v.c v.ds := fun W hM => (hM.oks v (List.mem_of_getElem? hv)).1
  have HSV := Lib.hid hsv
  clear hsv
  have HDL := Lib.hid hdl
  have HGRL := Lib.hid hgrl
  have HZC := Lib.hid (show zCame.size = 36 by simp [zCame, size_arr8, len_z8'])
  have hBZ := buildFrZ
  have hB4 := buildFr4
  have hgz : w.heap.size ≤ g2 := by omega
  clear h hN hv hS hS1 hSN hst hst1 hgr1 hu0 b2 hM0 hcell hok hlv hdl hrl hrz hone hgrl b7 hg2
  have HBW := Lib.hid hb0
  rw [hnd, if_pos hk, if_neg hg] at hh
  simp only [Prod.mk.injEq] at hh
  obtain ⟨rfl, rfl⟩ := hh
  have HGD := Lib.hid (show decide (v.k = 1 ∧ v.n = init ∧ 16 ≤ v.m ∧ v.m ≤ 64) = false by rw [← HLV.out]; exact decide_eq_false (fun h => hg h.2))
  have q1 : (v.k == 1) = true := by simp [hk]
  clear hk hg
  go_enter Try.func23, Try.ntmps23
  go_wp2_with (first
    | ((with_reducible show wpList _ _ _ (Oper.mk (some 2) (Op.alloc _) _ _ _ _ :: _) _ _); refine wpList_alloc_agg rfl 36 rfl #[.int .i64 0, .int .i64 0, .int .i64 0, .slice none 0 0] zeroFr ?_; rw [← HU0.out, ← HG2.out])
    | ((with_reducible show wpList _ _ _ (Oper.mk (some 27) (Op.load 58 _) _ _ _ _ :: _) _ _); refine wpList_load_agg rfl 58 (.tmp 26) rfl gb (off + j * 36) rfl v.row.toArray aggCame HRZ.out HC.out ?_)
    | ((with_reducible show wpList _ _ _ (Oper.mk (some 7) (Op.alloc _) _ _ _ _ :: _) _ _); refine wpList_alloc_agg rfl 58 rfl zCame zeroCame ?_)
    | ((with_reducible show wpList _ _ _ (Oper.mk none (Op.store 58 (.tmp 7) _) _ _ _ _ :: _) _ _); refine wpList_store_whole rfl 58 (.tmp 7) (.tmp 27) rfl u0.heap.size rfl v.row rfl aggCame HRL.out _ _ HB7.out HZC.out HONE.out ?_; intro u1 b71 q71 s71; have hb1 : Below u0.heap.size u0 u1 := hb07.grown q71 hb07.size (fun k hk => by cases hk; exact Nat.le_refl _); have hz1 := hb1.size; have HM1 := Lib.hid (HM.out.below hb1); have b21 := HB2.out.below hb1 hg2'; have hg7 : u0.heap.size < u1.heap.size := b71.lt; have HC7 := Lib.hid (row4 b71); obtain ⟨u2, hu2⟩ : ∃ u, u = u1.alloc (.cells #[.int .i64 v.k, .int .i64 v.n, .int .i64 v.x, .slice v.A v.m v.c] 36) := ⟨_, rfl⟩; have hb2 : Below u1.heap.size u1 u2 := (by rw [hu2]; exact below_alloc _ _); have b82 : Blk u2 u1.heap.size 36 #[.int .i64 v.k, .int .i64 v.n, .int .i64 v.x, .slice v.A v.m v.c] := (by rw [hu2]; exact Blk.new _ _ _); have hz2 := hb2.size; have HM2 := Lib.hid (HM1.out.below hb2); have b22 := b21.below hb2 b21.lt; have b72 := b71.below hb2 b71.lt; have HU2 := Lib.hid hu2; have HB12 := Lib.hid (hb1.trans (hb2.mono hz1)); clear q71 s71 hb1 hb2 hu2 b21 b71)
    | ((with_reducible show wpList _ _ _ (Oper.mk (some 29) (Op.load 36 _) _ _ _ _ :: _) _ _); refine wpList_load_agg rfl 36 (.tmp 28) rfl u0.heap.size 0 rfl #[.int .i64 v.k, .int .i64 v.n, .int .i64 v.x, .slice v.A v.m v.c] aggFr rfl HC7.out ?_)
    | ((fail_if_success have hx := b73); go_at_call 26; rw [← HU2.out]; refine (HST.out u2 HM2.out).mono ?_; rintro e w3 ⟨rfl, hb3⟩; have hz3 := hb3.size; have b23 := b22.below hb3 b22.lt; have b73 := b72.below hb3 b72.lt; have b83 := b82.below hb3 b82.lt; have HM3 := Lib.hid (HM2.out.below hb3))
    | ((fail_if_success have hx := b74); have hprev := b73; go_at_call 26; refine (HST1.out w3 HM3.out).mono ?_; rintro e w4 ⟨rfl, hb4⟩; have hz4 := hb4.size; have b24 := b23.below hb4 b23.lt; have b74 := b73.below hb4 b73.lt; have b84 := b83.below hb4 b83.lt; have HM4 := Lib.hid (HM3.out.below hb4); have e80 : w4.cell? ⟨u1.heap.size, 0, none⟩ = some (.int .i64 v.k) := (by rw [b84.cell]; rfl); have e81 : w4.cell? ⟨u1.heap.size, 1, none⟩ = some (.int .i64 v.n) := (by rw [b84.cell]; rfl); have HW4 := Lib.hid ((HBW.out.trans (HB12.out.mono hz0)).trans ((hb3.trans (hb4.mono hz3)).mono (Nat.le_trans hz0 (Nat.le_trans hz1 hz2)))); have HB24 := Lib.hid b24; have HB74 := Lib.hid b74; have HB84 := Lib.hid b84; have hw4z : w.heap.size ≤ w4.heap.size := HW4.out.size; clear hb3 hb4 b23 b22 b72 b82 b83)
    | ((with_reducible show wpList _ _ _ (Oper.mk (some 48) (Op.load 36 _) _ _ _ _ :: _) _ _); refine wpList_load_whole rfl 36 (.tmp 8) rfl u1.heap.size rfl #[.int .i64 v.k, .int .i64 v.n, .int .i64 v.x, .slice v.A v.m v.c] aggFr rfl _ HB84.out ?_)
    | (go_at_call 36; refine (greets_c HM4.out v.k v.n v.x v.A v.m v.c false HGD.out).mono ?_; rintro e w5 ⟨rfl, hb5⟩; have hz5 := hb5.size; have HB25 := Lib.hid (HB24.out.below hb5 HB24.out.lt); have HW5 := Lib.hid (HW4.out.trans (hb5.mono hw4z)); have hw5z : w.heap.size ≤ w5.heap.size := HW5.out.size)
    | (go_at_call 37; refine (reject_r 12 _).mono ?_; rintro e w6 ⟨rfl, hb6⟩; have b26 := HB25.out.below hb6 HB25.out.lt; have HW6 := Lib.hid (HW5.out.trans (hb6.mono hw5z)))
    | ((with_reducible show wpList _ _ _ (Oper.mk none (Op.store 36 (.tmp 2) _) _ _ _ _ :: _) _ _); refine wpList_store_whole rfl 36 (.tmp 2) (.tmp 52) rfl g2 rfl [.int .i64 7, .int .i64 0, .int .i64 12, .slice none 0 0] rfl aggFr rfl _ _ b26 rfl (by simp [Value.oneCell']) ?_; intro w7 b27 q27 s27))
  refine bodyPost_ret (results_cell_tmp3 rfl _ g2 _ #[.int .i64 7, .int .i64 0, .int .i64 12, .slice none 0 0] aggFr rfl rfl b27) rfl ?_
  exact ⟨none, 0, rfl, own_none _ _, HW6.out.grown q27 HW6.out.size (fun k hk => by cases hk; exact hgz)⟩
set_option maxHeartbeats 4000000 in
theorem ans_L2 {w : World} {gm : Nat} {tn init : Int} {At : Option Addr} {nt ct : Nat} {th : List UInt8} {Ao : Option Addr} {no co : Nat} {ou : List UInt8} {A : Option Addr} {N C : Nat} {cs : List Cv} (h : Md w gm tn init At nt ct th Ao no co ou A N C cs) (j : Nat) (hN : N = j + 1) {v : Cv} (hv : cs[j]? = some v) {S s1 : Sst} {out : Out} (hS : stf init th ou (cs.take j) = S) (hh : hnd init th ou S v.k v.n v.ds v.dr = (s1, out)) (hk : v.k = 1) (hg : v.n = init ∧ 16 ≤ v.ds.length ∧ v.ds.length ≤ 64) :
    Calls Try.prog 23 #[.pointer (some ⟨gm, 0, none⟩)] w (AnsP w out) := by
  have hbn := h.bn
  have hbo := h.bo
  have hS1 : stf init th ou (cs.take (j + 1)) = s1 := by rw [stf_take hv, hS, hh]
  have hSN : stf init th ou (cs.take N) = s1 := by rw [hN]; exact hS1
  have hgrl := gr_le (init := init) (th := th) (ou := ou) (cs := cs) j (by rw [h.len]; omega)
  rw [hS] at hgrl
  have hst : ∀ W, Md W gm tn init At nt ct th Ao no co ou A N C cs → Calls Try.prog 26 #[.pointer (some ⟨gm, 0, none⟩), .int .i64 (j : Int)] W fun e w' => e = .returned (.tuple #[.int .i64 S.st, .int .i64 (nxr S)]) ∧ Below W.heap.size W w' := fun W hM => by
    have := state_r j (by omega) hM
    rw [hS] at this
    exact this
  have hst1 : ∀ W, Md W gm tn init At nt ct th Ao no co ou A N C cs → Calls Try.prog 26 #[.pointer (some ⟨gm, 0, none⟩), .int .i64 (N : Int)] W fun e w' => e = .returned (.tuple #[.int .i64 s1.st, .int .i64 (nxr s1)]) ∧ Below W.heap.size W w' := fun W hM => by
    have := state_r N (Nat.le_refl _) hM
    rw [hSN] at this
    exact this
  have hgr1 : ∀ W, Md W gm tn init At nt ct th Ao no co ou A N C cs → Calls Try.prog 27 #[.pointer (some ⟨gm, 0, none⟩), .int .i64 (N : Int)] W fun e w' => e = .returned (.int .i64 (s1.gr : Int)) ∧ Below W.heap.size W w' := fun W hM => by
    have := greeted_r hM N (Nat.le_refl _)
    rw [hSN] at this
    exact this
  obtain ⟨u0, hu0⟩ : ∃ u, u = w.alloc (.cells #[.int .i64 0, .int .i64 0, .int .i64 0, .slice none 0 0] 36) := ⟨_, rfl⟩
  obtain ⟨g2, hg2⟩ : ∃ g, g = w.heap.size := ⟨_, rfl⟩
  have b2 : Blk u0 g2 36 #[.int .i64 0, .int .i64 0, .int .i64 0, .slice none 0 0] := by rw [hu0, hg2]; exact Blk.new _ _ _
  have hb0 : Below w.heap.size w u0 := by rw [hu0]; exact below_alloc _ _
  have hz0 := hb0.size
  have hM0 := h.below hb0
  obtain ⟨gb, off, rfl, hgb, hok, hcell⟩ := hM0.at_ hv
  have hlv : v.ds.length = v.m := hok.1.len
  have hdl : v.dr.length = 32 := hok.2.2
  have hrl : v.row.length = 36 := by simp [Cv.row, hdl]
  have hrz : v.row.toArray.size = 36 := by simp [hrl]
  have hone : ∀ x ∈ v.row, x.oneCell' = true := by
    intro x hx
    rw [Cv.row, List.mem_append] at hx
    rcases hx with hx | hx
    · simp only [List.mem_cons, List.not_mem_nil, or_false] at hx
      rcases hx with rfl | rfl | rfl | rfl <;> rfl
    · exact b8_one _ x hx
  have hN1 : (N : Int) - 1 = (j : Int) := by omega
  have hj0 : (0 : Int) ≤ (j : Int) := by omega
  have hjN : (j : Int) < (N : Int) := by omega
  have d04 : u0.cell? ⟨gm, 4, none⟩ = some (.slice (some ⟨gb, off, none⟩) N C) := by rw [hM0.blk.cell]; rfl
  have HC := Lib.hid (show ∀ (q : Nat) x, v.row.toArray[q]? = some x → u0.cell? ⟨gb, off + j * 36 + q, none⟩ = some x from fun q x hq => hcell q x (by simpa using hq))
  have b7 := Blk.new u0 58 zCame
  have hb07 := below_alloc u0 (.cells zCame 58)
  have hg2' : g2 < u0.heap.size := b2.lt
  have HB2 := Lib.hid b2
  have HB7 := Lib.hid b7
  have HM := Lib.hid hM0
  have HU0 := Lib.hid hu0
  have HG2 := Lib.hid hg2
  have HST := Lib.hid hst
  have HST1 := Lib.hid hst1
  have HGR1 := Lib.hid hgr1
  have HRZ := Lib.hid hrz
  have HRL := Lib.hid hrl
  have HONE := Lib.hid hone
  have HLV := Lib.hid hlv
  have hsv : ∀ W, Md W gm tn init At nt ct th Ao no co ou (some ⟨gb, off, none⟩) N C cs → SlB W W.heap.size v.A v.m v.c v.ds := fun W hM => (hM.oks v (List.mem_of_getElem? hv)).1
  have HSV := Lib.hid hsv
  clear hsv
  have HDL := Lib.hid hdl
  have HGRL := Lib.hid hgrl
  have HZC := Lib.hid (show zCame.size = 36 by simp [zCame, size_arr8, len_z8'])
  have hBZ := buildFrZ
  have hB4 := buildFr4
  have hgz : w.heap.size ≤ g2 := by omega
  clear h hN hv hS hS1 hSN hst hst1 hgr1 hu0 b2 hM0 hcell hok hlv hdl hrl hrz hone hgrl b7 hg2
  have HBW := Lib.hid hb0
  rw [hnd, if_pos hk, if_pos hg] at hh
  simp only [Prod.mk.injEq] at hh
  obtain ⟨rfl, rfl⟩ := hh
  have HGD := Lib.hid (show decide (v.k = 1 ∧ v.n = init ∧ 16 ≤ v.m ∧ v.m ≤ 64) = true by rw [← HLV.out]; exact decide_eq_true ⟨hk, hg⟩)
  have q1 : (v.k == 1) = true := by simp [hk]
  obtain ⟨id, hid⟩ : ∃ n : Nat, n = (S.gr + 1) % 256 := ⟨_, rfl⟩
  rw [← hid]
  have HIDM := Lib.hid (show ((S.gr : Int) + 1) % 256 = (id : Int) by rw [hid]; omega)
  have hm64 : v.m ≤ 64 := by have := HLV.out; omega
  have hid0 : (0 : Int) ≤ (id : Int) := by omega
  have hgr0 : (0 : Int) ≤ ((S.gr + 1 : Nat) : Int) := by omega
  obtain ⟨oo, hoo⟩ : ∃ x, x = ansOf (id : Int) ou v.ds := ⟨_, rfl⟩
  rw [← hoo]
  have HOL := Lib.hid (show oo.length = 32 by rw [hoo]; exact len_ansOf _ _ _)
  have HOO := Lib.hid hoo
  clear hk hg hoo hid
  go_enter Try.func23, Try.ntmps23
  go_wp2_with (first
    | ((with_reducible show wpList _ _ _ (Oper.mk (some 2) (Op.alloc _) _ _ _ _ :: _) _ _); refine wpList_alloc_agg rfl 36 rfl #[.int .i64 0, .int .i64 0, .int .i64 0, .slice none 0 0] zeroFr ?_; rw [← HU0.out, ← HG2.out])
    | ((with_reducible show wpList _ _ _ (Oper.mk (some 27) (Op.load 58 _) _ _ _ _ :: _) _ _); refine wpList_load_agg rfl 58 (.tmp 26) rfl gb (off + j * 36) rfl v.row.toArray aggCame HRZ.out HC.out ?_)
    | ((with_reducible show wpList _ _ _ (Oper.mk (some 7) (Op.alloc _) _ _ _ _ :: _) _ _); refine wpList_alloc_agg rfl 58 rfl zCame zeroCame ?_)
    | ((with_reducible show wpList _ _ _ (Oper.mk none (Op.store 58 (.tmp 7) _) _ _ _ _ :: _) _ _); refine wpList_store_whole rfl 58 (.tmp 7) (.tmp 27) rfl u0.heap.size rfl v.row rfl aggCame HRL.out _ _ HB7.out HZC.out HONE.out ?_; intro u1 b71 q71 s71; have hb1 : Below u0.heap.size u0 u1 := hb07.grown q71 hb07.size (fun k hk => by cases hk; exact Nat.le_refl _); have hz1 := hb1.size; have HM1 := Lib.hid (HM.out.below hb1); have b21 := HB2.out.below hb1 hg2'; have hg7 : u0.heap.size < u1.heap.size := b71.lt; have HC7 := Lib.hid (row4 b71); obtain ⟨u2, hu2⟩ : ∃ u, u = u1.alloc (.cells #[.int .i64 v.k, .int .i64 v.n, .int .i64 v.x, .slice v.A v.m v.c] 36) := ⟨_, rfl⟩; have hb2 : Below u1.heap.size u1 u2 := (by rw [hu2]; exact below_alloc _ _); have b82 : Blk u2 u1.heap.size 36 #[.int .i64 v.k, .int .i64 v.n, .int .i64 v.x, .slice v.A v.m v.c] := (by rw [hu2]; exact Blk.new _ _ _); have hz2 := hb2.size; have HM2 := Lib.hid (HM1.out.below hb2); have b22 := b21.below hb2 b21.lt; have b72 := b71.below hb2 b71.lt; have HU2 := Lib.hid hu2; have HB12 := Lib.hid (hb1.trans (hb2.mono hz1)); clear q71 s71 hb1 hb2 hu2 b21 b71)
    | ((with_reducible show wpList _ _ _ (Oper.mk (some 29) (Op.load 36 _) _ _ _ _ :: _) _ _); refine wpList_load_agg rfl 36 (.tmp 28) rfl u0.heap.size 0 rfl #[.int .i64 v.k, .int .i64 v.n, .int .i64 v.x, .slice v.A v.m v.c] aggFr rfl HC7.out ?_)
    | ((fail_if_success have hx := b73); go_at_call 26; rw [← HU2.out]; refine (HST.out u2 HM2.out).mono ?_; rintro e w3 ⟨rfl, hb3⟩; have hz3 := hb3.size; have b23 := b22.below hb3 b22.lt; have b73 := b72.below hb3 b72.lt; have b83 := b82.below hb3 b82.lt; have HM3 := Lib.hid (HM2.out.below hb3))
    | ((fail_if_success have hx := b74); have hprev := b73; go_at_call 26; refine (HST1.out w3 HM3.out).mono ?_; rintro e w4 ⟨rfl, hb4⟩; have hz4 := hb4.size; have b24 := b23.below hb4 b23.lt; have b74 := b73.below hb4 b73.lt; have b84 := b83.below hb4 b83.lt; have HM4 := Lib.hid (HM3.out.below hb4); have e80 : w4.cell? ⟨u1.heap.size, 0, none⟩ = some (.int .i64 v.k) := (by rw [b84.cell]; rfl); have e81 : w4.cell? ⟨u1.heap.size, 1, none⟩ = some (.int .i64 v.n) := (by rw [b84.cell]; rfl); have HW4 := Lib.hid ((HBW.out.trans (HB12.out.mono hz0)).trans ((hb3.trans (hb4.mono hz3)).mono (Nat.le_trans hz0 (Nat.le_trans hz1 hz2)))); have HB24 := Lib.hid b24; have HB74 := Lib.hid b74; have HB84 := Lib.hid b84; have hw4z : w.heap.size ≤ w4.heap.size := HW4.out.size; clear hb3 hb4 b23 b22 b72 b82 b83)
    | ((with_reducible show wpList _ _ _ (Oper.mk (some 48) (Op.load 36 _) _ _ _ _ :: _) _ _); refine wpList_load_whole rfl 36 (.tmp 8) rfl u1.heap.size rfl #[.int .i64 v.k, .int .i64 v.n, .int .i64 v.x, .slice v.A v.m v.c] aggFr rfl _ HB84.out ?_)
    | (go_at_call 36; refine (greets_c HM4.out v.k v.n v.x v.A v.m v.c true HGD.out).mono ?_; rintro e w5 ⟨rfl, hb5⟩; have HM5 := Lib.hid (HM4.out.below hb5); have hz5 := hb5.size)
    | (go_at_call 27; refine (HGR1.out w5 HM5.out).mono ?_; rintro e w6 ⟨rfl, hb6⟩))
  have hz6 := hb6.size
  have hb46 : Below w4.heap.size w4 w6 := hb5.trans (hb6.mono hz5)
  have HM6 := Lib.hid (HM4.out.below hb46)
  have HB26 := Lib.hid (HB24.out.below hb46 HB24.out.lt)
  have HB76 := Lib.hid (HB74.out.below hb46 HB74.out.lt)
  have HB86 := Lib.hid (HB84.out.below hb46 HB84.out.lt)
  rw [HIDM.out]
  have HSL6 := Lib.hid (show SlB w6 w6.heap.size v.A v.m v.c v.ds from HSV.out w6 HM6.out)
  have HW6 := Lib.hid (HW4.out.trans (hb46.mono hw4z))
  have hw6z : w.heap.size ≤ w6.heap.size := HW6.out.size
  clear hb46
  refine wp_norm ?_
  refine (wpIn_wide (n := 4)).1 ?_
  refine wpIn_region_rel free_wide rfl 10 (fun W W' => Below W.heap.size W W') (fun W => Below w6.heap.size w6 W)
    [Det (.int .i64 (id : Int)), Det (.pointer (some ⟨gm, 0, none⟩)), Det (.pointer (some ⟨gm, 0, none⟩)), Det (.pointer (some ⟨gm, 0, none⟩)), Det (.pointer (some ⟨gm, 3, none⟩)), Det (.slice Ao no co), Det (.pointer (some ⟨u1.heap.size, 3, none⟩)), Det (.slice v.A v.m v.c), Det (.agg (arr8 oo)), RelW w6.heap.size 34 (arr8 (z8' 32)), Any]
    [[], [], [(1, some 61)], [(2, some 62)], [(3, some 63)], [(4, some 64)], [], [(6, some 66)], [(0, some 60), (5, some 65), (7, some 67)], [], [(9, some 14), (8, some 68)]]
    [[], [], [1], [1, 2], [1, 2, 3], [1, 2, 3, 4], [], [6], [0, 1, 2, 3, 4, 5, 6, 7], [], [0, 1, 2, 3, 4, 5, 6, 7, 8, 9]]
    [(0, some 60), (1, some 61), (2, some 62), (3, some 63), (4, some 64), (5, some 65), (6, some 66), (7, some 67), (8, some 68), (9, some 14), (10, none)] (by kernel_rfl) (by kernel_rfl) (by kernel_rfl) (fun W W' h1 h2 => h1.trans (h2.mono h1.size)) ((Below.refl _ _).drew) ?_ ?_ ?_
  · exact (AllMono.cons Det.later (AllMono.cons Det.later (AllMono.cons Det.later (AllMono.cons Det.later (AllMono.cons Det.later (AllMono.cons Det.later (AllMono.cons Det.later (AllMono.cons Det.later (AllMono.cons Det.later (AllMono.cons RelW.later (AllMono.cons Any.later AllMono.nil)))))))))))
  · refine AllOb.cons ?_ (AllOb.cons ?_ (AllOb.cons ?_ (AllOb.cons ?_ (AllOb.cons ?_ (AllOb.cons ?_ (AllOb.cons ?_ (AllOb.cons ?_ (AllOb.cons ?_ (AllOb.cons ?_ (AllOb.nil))))))))))
    · intro uF W hC' hU aF hF
      have hC : Below w6.heap.size w6 W := hC'
      clear hC'
      simp only [puts] at hF
      subst hF
      go_wp2_with (fail)
      exact ⟨rfl, rfl, (Below.refl _ _), rfl⟩
    · intro uF W hC' hU aF hF
      have hC : Below w6.heap.size w6 W := hC'
      clear hC'
      simp only [puts] at hF
      subst hF
      go_wp2_with (fail)
      exact ⟨rfl, rfl, (Below.refl _ _), rfl⟩
    · intro uF W hC' hU aF hF
      have hC : Below w6.heap.size w6 W := hC'
      clear hC'
      have h61 : (Det (.pointer (some ⟨gm, 0, none⟩))) (uF 1) W := hU.1
      clear hU
      simp only [puts, Act.put, List.setIfInBounds_toArray, List.set_cons_zero, List.set_cons_succ] at hF
      generalize uF 1 = x61 at h61 hF
      obtain rfl : x61 = (.pointer (some ⟨gm, 0, none⟩)) := h61
      subst hF
      go_wp2_with (fail)
      exact ⟨rfl, rfl, (Below.refl _ _), rfl⟩
    · intro uF W hC' hU aF hF
      have hC : Below w6.heap.size w6 W := hC'
      clear hC'
      have h62 : (Det (.pointer (some ⟨gm, 0, none⟩))) (uF 2) W := hU.1
      clear hU
      simp only [puts, Act.put, List.setIfInBounds_toArray, List.set_cons_zero, List.set_cons_succ] at hF
      generalize uF 2 = x62 at h62 hF
      obtain rfl : x62 = (.pointer (some ⟨gm, 0, none⟩)) := h62
      subst hF
      go_wp2_with (fail)
      exact ⟨rfl, rfl, (Below.refl _ _), rfl⟩
    · intro uF W hC' hU aF hF
      have hC : Below w6.heap.size w6 W := hC'
      clear hC'
      have h63 : (Det (.pointer (some ⟨gm, 0, none⟩))) (uF 3) W := hU.1
      clear hU
      simp only [puts, Act.put, List.setIfInBounds_toArray, List.set_cons_zero, List.set_cons_succ] at hF
      generalize uF 3 = x63 at h63 hF
      obtain rfl : x63 = (.pointer (some ⟨gm, 0, none⟩)) := h63
      subst hF
      go_wp2_with (fail)
      exact ⟨rfl, rfl, (Below.refl _ _), rfl⟩
    · intro uF W hC' hU aF hF
      have hC : Below w6.heap.size w6 W := hC'
      clear hC'
      have h64 : (Det (.pointer (some ⟨gm, 3, none⟩))) (uF 4) W := hU.1
      clear hU
      simp only [puts, Act.put, List.setIfInBounds_toArray, List.set_cons_zero, List.set_cons_succ] at hF
      generalize uF 4 = x64 at h64 hF
      obtain rfl : x64 = (.pointer (some ⟨gm, 3, none⟩)) := h64
      subst hF
      have d1 : W.cell? ⟨gm, 3, none⟩ = some (.slice Ao no co) := by rw [(HM6.out.below hC).blk.cell]; rfl
      go_wp2_with (fail)
      exact ⟨rfl, rfl, (Below.refl _ _), rfl⟩
    · intro uF W hC' hU aF hF
      have hC : Below w6.heap.size w6 W := hC'
      clear hC'
      simp only [puts] at hF
      subst hF
      go_wp2_with (fail)
      exact ⟨rfl, rfl, (Below.refl _ _), rfl⟩
    · intro uF W hC' hU aF hF
      have hC : Below w6.heap.size w6 W := hC'
      clear hC'
      have h66 : (Det (.pointer (some ⟨u1.heap.size, 3, none⟩))) (uF 6) W := hU.1
      clear hU
      simp only [puts, Act.put, List.setIfInBounds_toArray, List.set_cons_zero, List.set_cons_succ] at hF
      generalize uF 6 = x66 at h66 hF
      obtain rfl : x66 = (.pointer (some ⟨u1.heap.size, 3, none⟩)) := h66
      subst hF
      have d1 : W.cell? ⟨u1.heap.size, 3, none⟩ = some (.slice v.A v.m v.c) := by rw [(HB86.out.below hC HB86.out.lt).cell]; rfl
      go_wp2_with (fail)
      exact ⟨rfl, rfl, (Below.refl _ _), rfl⟩
    · intro uF W hC' hU aF hF
      have hC : Below w6.heap.size w6 W := hC'
      clear hC'
      have h60 : (Det (.int .i64 (id : Int))) (uF 0) W := hU.1
      have h65 : (Det (.slice Ao no co)) (uF 5) W := hU.2.1
      have h67 : (Det (.slice v.A v.m v.c)) (uF 7) W := hU.2.2.1
      clear hU
      simp only [puts, Act.put, List.setIfInBounds_toArray, List.set_cons_zero, List.set_cons_succ] at hF
      generalize uF 0 = x60 at h60 hF
      generalize uF 5 = x65 at h65 hF
      generalize uF 7 = x67 at h67 hF
      obtain rfl : x60 = (.int .i64 (id : Int)) := h60
      obtain rfl : x65 = (.slice Ao no co) := h65
      obtain rfl : x67 = (.slice v.A v.m v.c) := h67
      subst hF
      go_wp2_with ((go_at_call 17; refine (refanswer_c (id : Int) (HM6.out.below hC).ou_ ((HSL6.out.below hC).more hC.size) (Nat.le_refl _) (by omega) (by omega)).mono ?_; rintro e W1 ⟨rfl, hb⟩; rw [← HOO.out]))
      exact ⟨rfl, rfl, hb, rfl⟩
    · intro uF W hC' hU aF hF
      have hC : Below w6.heap.size w6 W := hC'
      clear hC'
      simp only [puts] at hF
      subst hF
      go_wp2_with (((with_reducible show wpList _ _ _ (Oper.mk (some 14) (Op.alloc _) _ _ _ _ :: _) _ _); refine wpList_alloc_agg (by rfl) 34 rfl (arr8 (z8' 32)) zero44 ?_))
      exact ⟨rfl, rfl, (below_alloc _ _), ⟨_, rfl, hC.size, Blk.new _ _ _⟩⟩
  intro uF W7 hC' hU aF hF
  have hCW7 : Below w6.heap.size w6 W7 := hC'
  clear hC'
  have h68 : (Det (.agg (arr8 oo))) (uF 8) W7 := hU.2.2.2.2.2.2.2.2.1
  have h14 : (RelW w6.heap.size 34 (arr8 (z8' 32))) (uF 9) W7 := hU.2.2.2.2.2.2.2.2.2.1
  clear hU
  simp only [List.take_succ_cons, List.take_zero, puts, Act.put, List.setIfInBounds_toArray, List.set_cons_zero, List.set_cons_succ] at hF
  generalize uF 0 = x60 at hF
  generalize uF 1 = x61 at hF
  generalize uF 2 = x62 at hF
  generalize uF 3 = x63 at hF
  generalize uF 4 = x64 at hF
  generalize uF 5 = x65 at hF
  generalize uF 6 = x66 at hF
  generalize uF 7 = x67 at hF
  generalize uF 8 = x68 at h68 hF
  generalize uF 9 = x14 at h14 hF
  obtain rfl : x68 = (.agg (arr8 oo)) := h68
  obtain ⟨g14, rfl, z14, b14⟩ := h14
  subst hF
  simp only [List.drop_succ_cons, List.drop_zero]
  refine wpListIn_of free_wide (fun ⟨_, _, h⟩ => h) rfl ?_
  refine wpList_store8 rfl 34 (.tmp 14) (.tmp 68) rfl g14 rfl oo rfl agg44 HOL.out _ _ b14 (by rw [size_arr8, len_z8']) ?_
  intro w8 b8 q8 s8
  simp only [Act.put, List.setIfInBounds_toArray, List.set_cons_succ, List.set_cons_zero]
  refine wpList_nil ?_
  dsimp only [Exit.then]
  have hb68 : Below w6.heap.size w6 w8 := hCW7.grown q8 hCW7.size (fun k hk => by cases hk; exact z14)
  have hz68 := hb68.size
  have HB28 := Lib.hid (HB26.out.below hb68 HB26.out.lt)
  have HB14 := Lib.hid b8
  have HDR8 := Lib.hid (show SlB w8 w8.heap.size (some ⟨u0.heap.size, 4, none⟩) 32 32 v.dr from dr_sl (o := 0) (fun j u hj => by rw [Nat.zero_add, (HB76.out.below hb68 HB76.out.lt).cell]; simpa using hj) (Nat.lt_of_lt_of_le HB76.out.lt hz68) HDL.out)
  have HW8 := Lib.hid (HW6.out.trans (hb68.mono hw6z))
  have hw8z : w.heap.size ≤ w8.heap.size := HW8.out.size
  have h28 := HB28.out.lt
  clear q8 s8 b8 b14 hb68
  go_wp2_with fail
  refine wp_norm ?_
  refine (wpIn_wide (n := 4)).1 ?_
  refine wpIn_region_relS free_wide rfl 8 (LeO w8.heap.size v.dr (v.dr ++ oo)) (fun W W' => Below W.heap.size W W') 6 (CB w8)
    [Det (.int .i64 (id : Int)), RelE, Det (.pointer (some ⟨u0.heap.size, 4, none⟩)), Det (.slice (some ⟨u0.heap.size, 4, none⟩) 32 32), RelO w8.heap.size 32 v.dr, Det (.slice (some ⟨g14, 0, none⟩) 32 32), RelO2 w8.heap.size (v.dr ++ oo), RelF w8.heap.size (id : Int) (v.dr ++ oo), Any, Det (Value.bool true), Det (Value.bool true), Det (Value.bool false)]
    [[], [], [], [(2, some 71)], [(1, some 70), (3, some 72)], [], [(4, some 73), (5, some 74)], [(0, some 69), (6, some 75)], [(7, some 76)], [], [], []]
    [[], [], [], [2], [1, 2, 3], [], [1, 2, 3, 4, 5], [0, 1, 2, 3, 4, 5, 6], [0, 1, 2, 3, 4, 5, 6, 7], [0, 1, 2, 3, 4, 5, 6, 7, 8], [0, 1, 2, 3, 4, 5, 6, 7, 8, 9], [0, 1, 2, 3, 4, 5, 6, 7, 8, 9, 10]]
    [(0, some 69), (1, some 70), (2, some 71), (3, some 72), (4, some 73), (5, some 74), (6, some 75), (7, some 76), (8, none), (9, some 3), (10, some 4), (11, some 5)] (by kernel_rfl) (by kernel_rfl) (by kernel_rfl) (fun b W W1 h1 h2 => CB.step h1 h2) (by decide) (show CB w8 false w8.drew from (Below.refl _ _).drew) ?_ ?_ ?_
  · exact (AllMono.cons (Det.laterO trivial) (AllMono.cons (RelE.laterO trivial) (AllMono.cons (Det.laterO trivial) (AllMono.cons (Det.laterO trivial) (AllMono.cons (RelO.laterO trivial) (AllMono.cons (Det.laterO trivial) (AllMono.cons (RelO2.laterO trivial) (AllMono.cons (RelF.laterO trivial) (AllMono.cons (Any.laterO trivial) (AllMono.cons (Det.laterO trivial) (AllMono.cons (Det.laterO trivial) (AllMono.cons (Det.laterO trivial) AllMono.nil))))))))))))
  · refine AllObS.cons (by decide) ?_ (AllObS.cons (by decide) ?_ (AllObS.cons (by decide) ?_ (AllObS.cons (by decide) ?_ (AllObS.cons (by decide) ?_ (AllObS.cons (by decide) ?_ (AllObS.call ?_ (AllObS.cons (by decide) ?_ (AllObS.nil))))))))
    · intro bF uF W hC' hU aF hF
      have hC : CB w8 bF W := hC'
      clear hC'
      simp only [puts] at hF
      subst hF
      go_wp2_with (fail)
      exact ⟨rfl, rfl, (Below.refl _ _), rfl⟩
    · intro bF uF W hC' hU aF hF
      have hC : CB w8 bF W := hC'
      clear hC'
      simp only [puts] at hF
      subst hF
      go_wp2_with (fail)
      exact ⟨rfl, rfl, (below_alloc _ _), ⟨_, rfl⟩⟩
    · intro bF uF W hC' hU aF hF
      have hC : CB w8 bF W := hC'
      clear hC'
      simp only [puts] at hF
      subst hF
      go_wp2_with (fail)
      exact ⟨rfl, rfl, (Below.refl _ _), rfl⟩
    · intro bF uF W hC' hU aF hF
      have hC : CB w8 bF W := hC'
      clear hC'
      have h71 : (Det (.pointer (some ⟨u0.heap.size, 4, none⟩))) (uF 2) W := hU.1
      clear hU
      simp only [puts, Act.put, List.setIfInBounds_toArray, List.set_cons_zero, List.set_cons_succ] at hF
      generalize uF 2 = x71 at h71 hF
      obtain rfl : x71 = (.pointer (some ⟨u0.heap.size, 4, none⟩)) := h71
      subst hF
      have hto := arr_off_run (P := Try.prog) (T := 34) Try.underlying34 size1 (by omega) u0.heap.size 4
      go_wp2_with (fail)
      exact ⟨rfl, rfl, (Below.refl _ _), rfl⟩
    · intro bF uF W hC' hU aF hF
      have hC : CB w8 bF W := hC'
      clear hC'
      have h70 : RelE (uF 1) W := hU.1
      have h72 : (Det (.slice (some ⟨u0.heap.size, 4, none⟩) 32 32)) (uF 3) W := hU.2.1
      clear hU
      simp only [puts, Act.put, List.setIfInBounds_toArray, List.set_cons_zero, List.set_cons_succ] at hF
      generalize uF 1 = x70 at h70 hF
      generalize uF 3 = x72 at h72 hF
      obtain ⟨A70, rfl⟩ := h70
      obtain rfl : x72 = (.slice (some ⟨u0.heap.size, 4, none⟩) 32 32) := h72
      subst hF
      have hB : Below w8.heap.size w8 W := hC
      go_wp2_with ((at_builtin; refine wpList_append8 rfl (.tmp 70) (.tmp 72) rfl rfl (OwB.nil W w8.heap.size A70) rfl (HDR8.out.below hB) (by omega) hB.size 32 rfl ?_; intro A9 c9 w9 h9 q9))
      exact ⟨rfl, rfl, (q9.below (OwB.nil W W.heap.size A70) (Below.refl _ _) (Nat.le_refl _) (Nat.le_refl _)), ⟨_, _, rfl, h9⟩⟩
    · intro bF uF W hC' hU aF hF
      have hC : CB w8 bF W := hC'
      clear hC'
      simp only [puts] at hF
      subst hF
      have hto := arr_off_run (P := Try.prog) (T := 34) Try.underlying34 size1 (by omega) g14 0
      go_wp2_with (fail)
      exact ⟨rfl, rfl, (Below.refl _ _), rfl⟩
    · intro uF W hC' hU aF hF
      have hC : CB w8 false W := hC'
      clear hC'
      have h73 : (RelO w8.heap.size 32 v.dr) (uF 4) W := hU.1
      have h74 : (Det (.slice (some ⟨g14, 0, none⟩) 32 32)) (uF 5) W := hU.2.1
      clear hU
      simp only [puts, Act.put, List.setIfInBounds_toArray, List.set_cons_zero, List.set_cons_succ] at hF
      generalize uF 4 = x73 at h73 hF
      generalize uF 5 = x74 at h74 hF
      obtain ⟨A73, c73, rfl, s73⟩ := h73
      obtain rfl : x74 = (.slice (some ⟨g14, 0, none⟩) 32 32) := h74
      subst hF
      have hB : Below w8.heap.size w8 W := hC
      go_wp2_with ((at_builtin; refine wpList_append8K rfl (.tmp 73) (.tmp 74) rfl rfl s73 rfl ((sum_sl HB14.out HOL.out).below hB) (by omega) hB.size 64 rfl ?_; intro A9 c9 w9 h9 q9 k9))
      exact ⟨rfl, rfl, ⟨⟨q9.below s73 (Below.refl _ _) (Nat.le_refl _) hB.size, k9.1, k9.2⟩, (show CB w8 true w9 from q9.below s73 hB (Nat.le_refl _) hB.size)⟩, ⟨_, _, rfl, h9⟩⟩
    · intro bF uF W hC' hU aF hF
      have hC : CB w8 bF W := hC'
      clear hC'
      have h69 : (Det (.int .i64 (id : Int))) (uF 0) W := hU.1
      have h75 : (RelO2 w8.heap.size (v.dr ++ oo)) (uF 6) W := hU.2.1
      clear hU
      simp only [puts, Act.put, List.setIfInBounds_toArray, List.set_cons_zero, List.set_cons_succ] at hF
      generalize uF 0 = x69 at h69 hF
      generalize uF 6 = x75 at h75 hF
      obtain rfl : x69 = (.int .i64 (id : Int)) := h69
      obtain ⟨A75, c75, rfl, s75⟩ := h75
      subst hF
      have hbf := buildFr2
      go_wp2_with (fail)
      exact ⟨rfl, rfl, (Below.refl _ _), ⟨_, _, rfl, s75⟩⟩
  intro uF W9 hC' hU aF hF
  have hCW9 : CB w8 true W9 := hC'
  clear hC'
  have h76 : (RelF w8.heap.size (id : Int) (v.dr ++ oo)) (uF 7) W9 := hU.2.2.2.2.2.2.2.1
  clear hU
  simp only [List.take_succ_cons, List.take_zero, puts, Act.put, List.setIfInBounds_toArray, List.set_cons_zero, List.set_cons_succ] at hF
  generalize uF 0 = x69 at hF
  generalize uF 1 = x70 at hF
  generalize uF 2 = x71 at hF
  generalize uF 3 = x72 at hF
  generalize uF 4 = x73 at hF
  generalize uF 5 = x74 at hF
  generalize uF 6 = x75 at hF
  generalize uF 7 = x76 at h76 hF
  obtain ⟨A76, c76, rfl, s76⟩ := h76
  subst hF
  simp only [List.drop_succ_cons, List.drop_zero]
  have hB9 : Below w8.heap.size w8 W9 := hCW9
  have b29 := HB28.out.below hB9 h28
  refine wpListIn_of free_wide (fun ⟨_, _, h⟩ => h) rfl ?_
  refine wpList_store_whole rfl 36 (.tmp 2) (.tmp 76) rfl g2 rfl [.int .i64 2, .int .i64 (id : Int), .int .i64 0, .slice A76 64 c76] rfl aggFr rfl _ _ b29 rfl (by simp [Value.oneCell']) ?_
  intro w10 b10 q10 s10
  simp only [Act.put, List.setIfInBounds_toArray, List.set_cons_succ, List.set_cons_zero]
  go_wp2_with fail
  refine bodyPost_ret (results_cell_tmp3 rfl _ g2 _ #[.int .i64 2, .int .i64 (id : Int), .int .i64 0, .slice A76 64 c76] aggFr rfl rfl b10) rfl ?_
  refine ⟨A76, c76, ?_, ?_, ?_⟩
  · simp only [List.length_append, HDL.out, HOL.out]
    rfl
  · simp only [List.length_append, HDL.out, HOL.out]
    exact Row.base_le (fr_row s76 h28 ((Fr.below (Below.refl _ _)).grown q10 (.inl (List.mem_singleton.2 rfl)))) hw8z
  · exact (HW8.out.trans (hB9.mono hw8z)).grown q10 (Nat.le_trans hw8z hB9.size) (fun k hk => by cases hk; exact hgz)
set_option maxHeartbeats 4000000 in
theorem ans_L3 {w : World} {gm : Nat} {tn init : Int} {At : Option Addr} {nt ct : Nat} {th : List UInt8} {Ao : Option Addr} {no co : Nat} {ou : List UInt8} {A : Option Addr} {N C : Nat} {cs : List Cv} (h : Md w gm tn init At nt ct th Ao no co ou A N C cs) (j : Nat) (hN : N = j + 1) {v : Cv} (hv : cs[j]? = some v) {S s1 : Sst} {out : Out} (hS : stf init th ou (cs.take j) = S) (hh : hnd init th ou S v.k v.n v.ds v.dr = (s1, out)) (hk : v.k = 3) (hs : S.st = 1) (ha : (ansOf ((S.gr % 256 : Nat) : Int) th S.ch == v.ds) = true) :
    Calls Try.prog 23 #[.pointer (some ⟨gm, 0, none⟩)] w (AnsP w out) := by
  have hbn := h.bn
  have hbo := h.bo
  have hS1 : stf init th ou (cs.take (j + 1)) = s1 := by rw [stf_take hv, hS, hh]
  have hSN : stf init th ou (cs.take N) = s1 := by rw [hN]; exact hS1
  have hgrl := gr_le (init := init) (th := th) (ou := ou) (cs := cs) j (by rw [h.len]; omega)
  rw [hS] at hgrl
  have hst : ∀ W, Md W gm tn init At nt ct th Ao no co ou A N C cs → Calls Try.prog 26 #[.pointer (some ⟨gm, 0, none⟩), .int .i64 (j : Int)] W fun e w' => e = .returned (.tuple #[.int .i64 S.st, .int .i64 (nxr S)]) ∧ Below W.heap.size W w' := fun W hM => by
    have := state_r j (by omega) hM
    rw [hS] at this
    exact this
  have hst1 : ∀ W, Md W gm tn init At nt ct th Ao no co ou A N C cs → Calls Try.prog 26 #[.pointer (some ⟨gm, 0, none⟩), .int .i64 (N : Int)] W fun e w' => e = .returned (.tuple #[.int .i64 s1.st, .int .i64 (nxr s1)]) ∧ Below W.heap.size W w' := fun W hM => by
    have := state_r N (Nat.le_refl _) hM
    rw [hSN] at this
    exact this
  have hgr1 : ∀ W, Md W gm tn init At nt ct th Ao no co ou A N C cs → Calls Try.prog 27 #[.pointer (some ⟨gm, 0, none⟩), .int .i64 (N : Int)] W fun e w' => e = .returned (.int .i64 (s1.gr : Int)) ∧ Below W.heap.size W w' := fun W hM => by
    have := greeted_r hM N (Nat.le_refl _)
    rw [hSN] at this
    exact this
  obtain ⟨u0, hu0⟩ : ∃ u, u = w.alloc (.cells #[.int .i64 0, .int .i64 0, .int .i64 0, .slice none 0 0] 36) := ⟨_, rfl⟩
  obtain ⟨g2, hg2⟩ : ∃ g, g = w.heap.size := ⟨_, rfl⟩
  have b2 : Blk u0 g2 36 #[.int .i64 0, .int .i64 0, .int .i64 0, .slice none 0 0] := by rw [hu0, hg2]; exact Blk.new _ _ _
  have hb0 : Below w.heap.size w u0 := by rw [hu0]; exact below_alloc _ _
  have hz0 := hb0.size
  have hM0 := h.below hb0
  obtain ⟨gb, off, rfl, hgb, hok, hcell⟩ := hM0.at_ hv
  have hlv : v.ds.length = v.m := hok.1.len
  have hdl : v.dr.length = 32 := hok.2.2
  have hrl : v.row.length = 36 := by simp [Cv.row, hdl]
  have hrz : v.row.toArray.size = 36 := by simp [hrl]
  have hone : ∀ x ∈ v.row, x.oneCell' = true := by
    intro x hx
    rw [Cv.row, List.mem_append] at hx
    rcases hx with hx | hx
    · simp only [List.mem_cons, List.not_mem_nil, or_false] at hx
      rcases hx with rfl | rfl | rfl | rfl <;> rfl
    · exact b8_one _ x hx
  have hN1 : (N : Int) - 1 = (j : Int) := by omega
  have hj0 : (0 : Int) ≤ (j : Int) := by omega
  have hjN : (j : Int) < (N : Int) := by omega
  have d04 : u0.cell? ⟨gm, 4, none⟩ = some (.slice (some ⟨gb, off, none⟩) N C) := by rw [hM0.blk.cell]; rfl
  have HC := Lib.hid (show ∀ (q : Nat) x, v.row.toArray[q]? = some x → u0.cell? ⟨gb, off + j * 36 + q, none⟩ = some x from fun q x hq => hcell q x (by simpa using hq))
  have b7 := Blk.new u0 58 zCame
  have hb07 := below_alloc u0 (.cells zCame 58)
  have hg2' : g2 < u0.heap.size := b2.lt
  have HB2 := Lib.hid b2
  have HB7 := Lib.hid b7
  have HM := Lib.hid hM0
  have HU0 := Lib.hid hu0
  have HG2 := Lib.hid hg2
  have HST := Lib.hid hst
  have HST1 := Lib.hid hst1
  have HGR1 := Lib.hid hgr1
  have HRZ := Lib.hid hrz
  have HRL := Lib.hid hrl
  have HONE := Lib.hid hone
  have HLV := Lib.hid hlv
  have hsv : ∀ W, Md W gm tn init At nt ct th Ao no co ou (some ⟨gb, off, none⟩) N C cs → SlB W W.heap.size v.A v.m v.c v.ds := fun W hM => (hM.oks v (List.mem_of_getElem? hv)).1
  have HSV := Lib.hid hsv
  clear hsv
  have HDL := Lib.hid hdl
  have HGRL := Lib.hid hgrl
  have HZC := Lib.hid (show zCame.size = 36 by simp [zCame, size_arr8, len_z8'])
  have hBZ := buildFrZ
  have hB4 := buildFr4
  have hgz : w.heap.size ≤ g2 := by omega
  clear h hN hv hS hS1 hSN hst hst1 hgr1 hu0 b2 hM0 hcell hok hlv hdl hrl hrz hone hgrl b7 hg2
  have HBW := Lib.hid hb0
  rw [hnd, if_neg (by omega), if_pos hk, if_pos hs, if_pos ha] at hh
  simp only [Prod.mk.injEq] at hh
  obtain ⟨rfl, rfl⟩ := hh
  have q1 : (v.k == 1) = false := by simp [hk]
  have q3 : (v.k == 3) = true := by simp [hk]
  have s1' : (S.st == 1) = true := by simpa using hs
  clear hk hs ha
  go_enter Try.func23, Try.ntmps23
  go_wp2_with (first
    | ((with_reducible show wpList _ _ _ (Oper.mk (some 2) (Op.alloc _) _ _ _ _ :: _) _ _); refine wpList_alloc_agg rfl 36 rfl #[.int .i64 0, .int .i64 0, .int .i64 0, .slice none 0 0] zeroFr ?_; rw [← HU0.out, ← HG2.out])
    | ((with_reducible show wpList _ _ _ (Oper.mk (some 27) (Op.load 58 _) _ _ _ _ :: _) _ _); refine wpList_load_agg rfl 58 (.tmp 26) rfl gb (off + j * 36) rfl v.row.toArray aggCame HRZ.out HC.out ?_)
    | ((with_reducible show wpList _ _ _ (Oper.mk (some 7) (Op.alloc _) _ _ _ _ :: _) _ _); refine wpList_alloc_agg rfl 58 rfl zCame zeroCame ?_)
    | ((with_reducible show wpList _ _ _ (Oper.mk none (Op.store 58 (.tmp 7) _) _ _ _ _ :: _) _ _); refine wpList_store_whole rfl 58 (.tmp 7) (.tmp 27) rfl u0.heap.size rfl v.row rfl aggCame HRL.out _ _ HB7.out HZC.out HONE.out ?_; intro u1 b71 q71 s71; have hb1 : Below u0.heap.size u0 u1 := hb07.grown q71 hb07.size (fun k hk => by cases hk; exact Nat.le_refl _); have hz1 := hb1.size; have HM1 := Lib.hid (HM.out.below hb1); have b21 := HB2.out.below hb1 hg2'; have hg7 : u0.heap.size < u1.heap.size := b71.lt; have HC7 := Lib.hid (row4 b71); obtain ⟨u2, hu2⟩ : ∃ u, u = u1.alloc (.cells #[.int .i64 v.k, .int .i64 v.n, .int .i64 v.x, .slice v.A v.m v.c] 36) := ⟨_, rfl⟩; have hb2 : Below u1.heap.size u1 u2 := (by rw [hu2]; exact below_alloc _ _); have b82 : Blk u2 u1.heap.size 36 #[.int .i64 v.k, .int .i64 v.n, .int .i64 v.x, .slice v.A v.m v.c] := (by rw [hu2]; exact Blk.new _ _ _); have hz2 := hb2.size; have HM2 := Lib.hid (HM1.out.below hb2); have b22 := b21.below hb2 b21.lt; have b72 := b71.below hb2 b71.lt; have HU2 := Lib.hid hu2; have HB12 := Lib.hid (hb1.trans (hb2.mono hz1)); clear q71 s71 hb1 hb2 hu2 b21 b71)
    | ((with_reducible show wpList _ _ _ (Oper.mk (some 29) (Op.load 36 _) _ _ _ _ :: _) _ _); refine wpList_load_agg rfl 36 (.tmp 28) rfl u0.heap.size 0 rfl #[.int .i64 v.k, .int .i64 v.n, .int .i64 v.x, .slice v.A v.m v.c] aggFr rfl HC7.out ?_)
    | ((fail_if_success have hx := b73); go_at_call 26; rw [← HU2.out]; refine (HST.out u2 HM2.out).mono ?_; rintro e w3 ⟨rfl, hb3⟩; have hz3 := hb3.size; have b23 := b22.below hb3 b22.lt; have b73 := b72.below hb3 b72.lt; have b83 := b82.below hb3 b82.lt; have HM3 := Lib.hid (HM2.out.below hb3))
    | ((fail_if_success have hx := b74); have hprev := b73; go_at_call 26; refine (HST1.out w3 HM3.out).mono ?_; rintro e w4 ⟨rfl, hb4⟩; have hz4 := hb4.size; have b24 := b23.below hb4 b23.lt; have b74 := b73.below hb4 b73.lt; have b84 := b83.below hb4 b83.lt; have HM4 := Lib.hid (HM3.out.below hb4); have e80 : w4.cell? ⟨u1.heap.size, 0, none⟩ = some (.int .i64 v.k) := (by rw [b84.cell]; rfl); have e81 : w4.cell? ⟨u1.heap.size, 1, none⟩ = some (.int .i64 v.n) := (by rw [b84.cell]; rfl); have HW4 := Lib.hid ((HBW.out.trans (HB12.out.mono hz0)).trans ((hb3.trans (hb4.mono hz3)).mono (Nat.le_trans hz0 (Nat.le_trans hz1 hz2)))); have HB24 := Lib.hid b24; have HB74 := Lib.hid b74; have HB84 := Lib.hid b84; have hw4z : w.heap.size ≤ w4.heap.size := HW4.out.size; clear hb3 hb4 b23 b22 b72 b82 b83)
    | ((with_reducible show wpList _ _ _ (Oper.mk none (Op.store 36 (.tmp 2) _) _ _ _ _ :: _) _ _); refine wpList_store_whole rfl 36 (.tmp 2) (.tmp 85) rfl g2 rfl [.int .i64 4, .int .i64 0, .int .i64 0, .slice none 0 0] rfl aggFr rfl _ _ HB24.out rfl (by simp [Value.oneCell']) ?_; intro w7 b27 q27 s27))
  refine bodyPost_ret (results_cell_tmp3 rfl _ g2 _ #[.int .i64 4, .int .i64 0, .int .i64 0, .slice none 0 0] aggFr rfl rfl b27) rfl ?_
  exact ⟨none, 0, rfl, own_none _ _, HW4.out.grown q27 HW4.out.size (fun k hk => by cases hk; exact hgz)⟩
set_option maxHeartbeats 4000000 in
theorem ans_L4 {w : World} {gm : Nat} {tn init : Int} {At : Option Addr} {nt ct : Nat} {th : List UInt8} {Ao : Option Addr} {no co : Nat} {ou : List UInt8} {A : Option Addr} {N C : Nat} {cs : List Cv} (h : Md w gm tn init At nt ct th Ao no co ou A N C cs) (j : Nat) (hN : N = j + 1) {v : Cv} (hv : cs[j]? = some v) {S s1 : Sst} {out : Out} (hS : stf init th ou (cs.take j) = S) (hh : hnd init th ou S v.k v.n v.ds v.dr = (s1, out)) (hk : v.k = 3) (hs : S.st = 1) (ha : ¬ (ansOf ((S.gr % 256 : Nat) : Int) th S.ch == v.ds) = true) :
    Calls Try.prog 23 #[.pointer (some ⟨gm, 0, none⟩)] w (AnsP w out) := by
  have hbn := h.bn
  have hbo := h.bo
  have hS1 : stf init th ou (cs.take (j + 1)) = s1 := by rw [stf_take hv, hS, hh]
  have hSN : stf init th ou (cs.take N) = s1 := by rw [hN]; exact hS1
  have hgrl := gr_le (init := init) (th := th) (ou := ou) (cs := cs) j (by rw [h.len]; omega)
  rw [hS] at hgrl
  have hst : ∀ W, Md W gm tn init At nt ct th Ao no co ou A N C cs → Calls Try.prog 26 #[.pointer (some ⟨gm, 0, none⟩), .int .i64 (j : Int)] W fun e w' => e = .returned (.tuple #[.int .i64 S.st, .int .i64 (nxr S)]) ∧ Below W.heap.size W w' := fun W hM => by
    have := state_r j (by omega) hM
    rw [hS] at this
    exact this
  have hst1 : ∀ W, Md W gm tn init At nt ct th Ao no co ou A N C cs → Calls Try.prog 26 #[.pointer (some ⟨gm, 0, none⟩), .int .i64 (N : Int)] W fun e w' => e = .returned (.tuple #[.int .i64 s1.st, .int .i64 (nxr s1)]) ∧ Below W.heap.size W w' := fun W hM => by
    have := state_r N (Nat.le_refl _) hM
    rw [hSN] at this
    exact this
  have hgr1 : ∀ W, Md W gm tn init At nt ct th Ao no co ou A N C cs → Calls Try.prog 27 #[.pointer (some ⟨gm, 0, none⟩), .int .i64 (N : Int)] W fun e w' => e = .returned (.int .i64 (s1.gr : Int)) ∧ Below W.heap.size W w' := fun W hM => by
    have := greeted_r hM N (Nat.le_refl _)
    rw [hSN] at this
    exact this
  obtain ⟨u0, hu0⟩ : ∃ u, u = w.alloc (.cells #[.int .i64 0, .int .i64 0, .int .i64 0, .slice none 0 0] 36) := ⟨_, rfl⟩
  obtain ⟨g2, hg2⟩ : ∃ g, g = w.heap.size := ⟨_, rfl⟩
  have b2 : Blk u0 g2 36 #[.int .i64 0, .int .i64 0, .int .i64 0, .slice none 0 0] := by rw [hu0, hg2]; exact Blk.new _ _ _
  have hb0 : Below w.heap.size w u0 := by rw [hu0]; exact below_alloc _ _
  have hz0 := hb0.size
  have hM0 := h.below hb0
  obtain ⟨gb, off, rfl, hgb, hok, hcell⟩ := hM0.at_ hv
  have hlv : v.ds.length = v.m := hok.1.len
  have hdl : v.dr.length = 32 := hok.2.2
  have hrl : v.row.length = 36 := by simp [Cv.row, hdl]
  have hrz : v.row.toArray.size = 36 := by simp [hrl]
  have hone : ∀ x ∈ v.row, x.oneCell' = true := by
    intro x hx
    rw [Cv.row, List.mem_append] at hx
    rcases hx with hx | hx
    · simp only [List.mem_cons, List.not_mem_nil, or_false] at hx
      rcases hx with rfl | rfl | rfl | rfl <;> rfl
    · exact b8_one _ x hx
  have hN1 : (N : Int) - 1 = (j : Int) := by omega
  have hj0 : (0 : Int) ≤ (j : Int) := by omega
  have hjN : (j : Int) < (N : Int) := by omega
  have d04 : u0.cell? ⟨gm, 4, none⟩ = some (.slice (some ⟨gb, off, none⟩) N C) := by rw [hM0.blk.cell]; rfl
  have HC := Lib.hid (show ∀ (q : Nat) x, v.row.toArray[q]? = some x → u0.cell? ⟨gb, off + j * 36 + q, none⟩ = some x from fun q x hq => hcell q x (by simpa using hq))
  have b7 := Blk.new u0 58 zCame
  have hb07 := below_alloc u0 (.cells zCame 58)
  have hg2' : g2 < u0.heap.size := b2.lt
  have HB2 := Lib.hid b2
  have HB7 := Lib.hid b7
  have HM := Lib.hid hM0
  have HU0 := Lib.hid hu0
  have HG2 := Lib.hid hg2
  have HST := Lib.hid hst
  have HST1 := Lib.hid hst1
  have HGR1 := Lib.hid hgr1
  have HRZ := Lib.hid hrz
  have HRL := Lib.hid hrl
  have HONE := Lib.hid hone
  have HLV := Lib.hid hlv
  have hsv : ∀ W, Md W gm tn init At nt ct th Ao no co ou (some ⟨gb, off, none⟩) N C cs → SlB W W.heap.size v.A v.m v.c v.ds := fun W hM => (hM.oks v (List.mem_of_getElem? hv)).1
  have HSV := Lib.hid hsv
  clear hsv
  have HDL := Lib.hid hdl
  have HGRL := Lib.hid hgrl
  have HZC := Lib.hid (show zCame.size = 36 by simp [zCame, size_arr8, len_z8'])
  have hBZ := buildFrZ
  have hB4 := buildFr4
  have hgz : w.heap.size ≤ g2 := by omega
  clear h hN hv hS hS1 hSN hst hst1 hgr1 hu0 b2 hM0 hcell hok hlv hdl hrl hrz hone hgrl b7 hg2
  have HBW := Lib.hid hb0
  rw [hnd, if_neg (by omega), if_pos hk, if_pos hs, if_neg ha] at hh
  simp only [Prod.mk.injEq] at hh
  obtain ⟨rfl, rfl⟩ := hh
  have q1 : (v.k == 1) = false := by simp [hk]
  have q3 : (v.k == 3) = true := by simp [hk]
  have s1' : (S.st == 1) = true := by simpa using hs
  clear hk hs ha
  go_enter Try.func23, Try.ntmps23
  go_wp2_with (first
    | ((with_reducible show wpList _ _ _ (Oper.mk (some 2) (Op.alloc _) _ _ _ _ :: _) _ _); refine wpList_alloc_agg rfl 36 rfl #[.int .i64 0, .int .i64 0, .int .i64 0, .slice none 0 0] zeroFr ?_; rw [← HU0.out, ← HG2.out])
    | ((with_reducible show wpList _ _ _ (Oper.mk (some 27) (Op.load 58 _) _ _ _ _ :: _) _ _); refine wpList_load_agg rfl 58 (.tmp 26) rfl gb (off + j * 36) rfl v.row.toArray aggCame HRZ.out HC.out ?_)
    | ((with_reducible show wpList _ _ _ (Oper.mk (some 7) (Op.alloc _) _ _ _ _ :: _) _ _); refine wpList_alloc_agg rfl 58 rfl zCame zeroCame ?_)
    | ((with_reducible show wpList _ _ _ (Oper.mk none (Op.store 58 (.tmp 7) _) _ _ _ _ :: _) _ _); refine wpList_store_whole rfl 58 (.tmp 7) (.tmp 27) rfl u0.heap.size rfl v.row rfl aggCame HRL.out _ _ HB7.out HZC.out HONE.out ?_; intro u1 b71 q71 s71; have hb1 : Below u0.heap.size u0 u1 := hb07.grown q71 hb07.size (fun k hk => by cases hk; exact Nat.le_refl _); have hz1 := hb1.size; have HM1 := Lib.hid (HM.out.below hb1); have b21 := HB2.out.below hb1 hg2'; have hg7 : u0.heap.size < u1.heap.size := b71.lt; have HC7 := Lib.hid (row4 b71); obtain ⟨u2, hu2⟩ : ∃ u, u = u1.alloc (.cells #[.int .i64 v.k, .int .i64 v.n, .int .i64 v.x, .slice v.A v.m v.c] 36) := ⟨_, rfl⟩; have hb2 : Below u1.heap.size u1 u2 := (by rw [hu2]; exact below_alloc _ _); have b82 : Blk u2 u1.heap.size 36 #[.int .i64 v.k, .int .i64 v.n, .int .i64 v.x, .slice v.A v.m v.c] := (by rw [hu2]; exact Blk.new _ _ _); have hz2 := hb2.size; have HM2 := Lib.hid (HM1.out.below hb2); have b22 := b21.below hb2 b21.lt; have b72 := b71.below hb2 b71.lt; have HU2 := Lib.hid hu2; have HB12 := Lib.hid (hb1.trans (hb2.mono hz1)); clear q71 s71 hb1 hb2 hu2 b21 b71)
    | ((with_reducible show wpList _ _ _ (Oper.mk (some 29) (Op.load 36 _) _ _ _ _ :: _) _ _); refine wpList_load_agg rfl 36 (.tmp 28) rfl u0.heap.size 0 rfl #[.int .i64 v.k, .int .i64 v.n, .int .i64 v.x, .slice v.A v.m v.c] aggFr rfl HC7.out ?_)
    | ((fail_if_success have hx := b73); go_at_call 26; rw [← HU2.out]; refine (HST.out u2 HM2.out).mono ?_; rintro e w3 ⟨rfl, hb3⟩; have hz3 := hb3.size; have b23 := b22.below hb3 b22.lt; have b73 := b72.below hb3 b72.lt; have b83 := b82.below hb3 b82.lt; have HM3 := Lib.hid (HM2.out.below hb3))
    | ((fail_if_success have hx := b74); have hprev := b73; go_at_call 26; refine (HST1.out w3 HM3.out).mono ?_; rintro e w4 ⟨rfl, hb4⟩; have hz4 := hb4.size; have b24 := b23.below hb4 b23.lt; have b74 := b73.below hb4 b73.lt; have b84 := b83.below hb4 b83.lt; have HM4 := Lib.hid (HM3.out.below hb4); have e80 : w4.cell? ⟨u1.heap.size, 0, none⟩ = some (.int .i64 v.k) := (by rw [b84.cell]; rfl); have e81 : w4.cell? ⟨u1.heap.size, 1, none⟩ = some (.int .i64 v.n) := (by rw [b84.cell]; rfl); have HW4 := Lib.hid ((HBW.out.trans (HB12.out.mono hz0)).trans ((hb3.trans (hb4.mono hz3)).mono (Nat.le_trans hz0 (Nat.le_trans hz1 hz2)))); have HB24 := Lib.hid b24; have HB74 := Lib.hid b74; have HB84 := Lib.hid b84; have hw4z : w.heap.size ≤ w4.heap.size := HW4.out.size; clear hb3 hb4 b23 b22 b72 b82 b83)
    | (go_at_call 37; refine (reject_r 12 _).mono ?_; rintro e w6 ⟨rfl, hb6⟩; have b26 := HB24.out.below hb6 HB24.out.lt; have HW6 := Lib.hid (HW4.out.trans (hb6.mono hw4z)))
    | ((with_reducible show wpList _ _ _ (Oper.mk none (Op.store 36 (.tmp 2) _) _ _ _ _ :: _) _ _); refine wpList_store_whole rfl 36 (.tmp 2) (.tmp 87) rfl g2 rfl [.int .i64 7, .int .i64 0, .int .i64 12, .slice none 0 0] rfl aggFr rfl _ _ b26 rfl (by simp [Value.oneCell']) ?_; intro w7 b27 q27 s27))
  refine bodyPost_ret (results_cell_tmp3 rfl _ g2 _ #[.int .i64 7, .int .i64 0, .int .i64 12, .slice none 0 0] aggFr rfl rfl b27) rfl ?_
  exact ⟨none, 0, rfl, own_none _ _, HW6.out.grown q27 HW6.out.size (fun k hk => by cases hk; exact hgz)⟩
set_option maxHeartbeats 4000000 in
theorem ans_L5 {w : World} {gm : Nat} {tn init : Int} {At : Option Addr} {nt ct : Nat} {th : List UInt8} {Ao : Option Addr} {no co : Nat} {ou : List UInt8} {A : Option Addr} {N C : Nat} {cs : List Cv} (h : Md w gm tn init At nt ct th Ao no co ou A N C cs) (j : Nat) (hN : N = j + 1) {v : Cv} (hv : cs[j]? = some v) {S s1 : Sst} {out : Out} (hS : stf init th ou (cs.take j) = S) (hh : hnd init th ou S v.k v.n v.ds v.dr = (s1, out)) (hk : v.k = 3) (hs : S.st ≠ 1) :
    Calls Try.prog 23 #[.pointer (some ⟨gm, 0, none⟩)] w (AnsP w out) := by
  have hbn := h.bn
  have hbo := h.bo
  have hS1 : stf init th ou (cs.take (j + 1)) = s1 := by rw [stf_take hv, hS, hh]
  have hSN : stf init th ou (cs.take N) = s1 := by rw [hN]; exact hS1
  have hgrl := gr_le (init := init) (th := th) (ou := ou) (cs := cs) j (by rw [h.len]; omega)
  rw [hS] at hgrl
  have hst : ∀ W, Md W gm tn init At nt ct th Ao no co ou A N C cs → Calls Try.prog 26 #[.pointer (some ⟨gm, 0, none⟩), .int .i64 (j : Int)] W fun e w' => e = .returned (.tuple #[.int .i64 S.st, .int .i64 (nxr S)]) ∧ Below W.heap.size W w' := fun W hM => by
    have := state_r j (by omega) hM
    rw [hS] at this
    exact this
  have hst1 : ∀ W, Md W gm tn init At nt ct th Ao no co ou A N C cs → Calls Try.prog 26 #[.pointer (some ⟨gm, 0, none⟩), .int .i64 (N : Int)] W fun e w' => e = .returned (.tuple #[.int .i64 s1.st, .int .i64 (nxr s1)]) ∧ Below W.heap.size W w' := fun W hM => by
    have := state_r N (Nat.le_refl _) hM
    rw [hSN] at this
    exact this
  have hgr1 : ∀ W, Md W gm tn init At nt ct th Ao no co ou A N C cs → Calls Try.prog 27 #[.pointer (some ⟨gm, 0, none⟩), .int .i64 (N : Int)] W fun e w' => e = .returned (.int .i64 (s1.gr : Int)) ∧ Below W.heap.size W w' := fun W hM => by
    have := greeted_r hM N (Nat.le_refl _)
    rw [hSN] at this
    exact this
  obtain ⟨u0, hu0⟩ : ∃ u, u = w.alloc (.cells #[.int .i64 0, .int .i64 0, .int .i64 0, .slice none 0 0] 36) := ⟨_, rfl⟩
  obtain ⟨g2, hg2⟩ : ∃ g, g = w.heap.size := ⟨_, rfl⟩
  have b2 : Blk u0 g2 36 #[.int .i64 0, .int .i64 0, .int .i64 0, .slice none 0 0] := by rw [hu0, hg2]; exact Blk.new _ _ _
  have hb0 : Below w.heap.size w u0 := by rw [hu0]; exact below_alloc _ _
  have hz0 := hb0.size
  have hM0 := h.below hb0
  obtain ⟨gb, off, rfl, hgb, hok, hcell⟩ := hM0.at_ hv
  have hlv : v.ds.length = v.m := hok.1.len
  have hdl : v.dr.length = 32 := hok.2.2
  have hrl : v.row.length = 36 := by simp [Cv.row, hdl]
  have hrz : v.row.toArray.size = 36 := by simp [hrl]
  have hone : ∀ x ∈ v.row, x.oneCell' = true := by
    intro x hx
    rw [Cv.row, List.mem_append] at hx
    rcases hx with hx | hx
    · simp only [List.mem_cons, List.not_mem_nil, or_false] at hx
      rcases hx with rfl | rfl | rfl | rfl <;> rfl
    · exact b8_one _ x hx
  have hN1 : (N : Int) - 1 = (j : Int) := by omega
  have hj0 : (0 : Int) ≤ (j : Int) := by omega
  have hjN : (j : Int) < (N : Int) := by omega
  have d04 : u0.cell? ⟨gm, 4, none⟩ = some (.slice (some ⟨gb, off, none⟩) N C) := by rw [hM0.blk.cell]; rfl
  have HC := Lib.hid (show ∀ (q : Nat) x, v.row.toArray[q]? = some x → u0.cell? ⟨gb, off + j * 36 + q, none⟩ = some x from fun q x hq => hcell q x (by simpa using hq))
  have b7 := Blk.new u0 58 zCame
  have hb07 := below_alloc u0 (.cells zCame 58)
  have hg2' : g2 < u0.heap.size := b2.lt
  have HB2 := Lib.hid b2
  have HB7 := Lib.hid b7
  have HM := Lib.hid hM0
  have HU0 := Lib.hid hu0
  have HG2 := Lib.hid hg2
  have HST := Lib.hid hst
  have HST1 := Lib.hid hst1
  have HGR1 := Lib.hid hgr1
  have HRZ := Lib.hid hrz
  have HRL := Lib.hid hrl
  have HONE := Lib.hid hone
  have HLV := Lib.hid hlv
  have hsv : ∀ W, Md W gm tn init At nt ct th Ao no co ou (some ⟨gb, off, none⟩) N C cs → SlB W W.heap.size v.A v.m v.c v.ds := fun W hM => (hM.oks v (List.mem_of_getElem? hv)).1
  have HSV := Lib.hid hsv
  clear hsv
  have HDL := Lib.hid hdl
  have HGRL := Lib.hid hgrl
  have HZC := Lib.hid (show zCame.size = 36 by simp [zCame, size_arr8, len_z8'])
  have hBZ := buildFrZ
  have hB4 := buildFr4
  have hgz : w.heap.size ≤ g2 := by omega
  clear h hN hv hS hS1 hSN hst hst1 hgr1 hu0 b2 hM0 hcell hok hlv hdl hrl hrz hone hgrl b7 hg2
  have HBW := Lib.hid hb0
  rw [hnd, if_neg (by omega), if_pos hk, if_neg hs] at hh
  simp only [Prod.mk.injEq] at hh
  obtain ⟨rfl, rfl⟩ := hh
  have q1 : (v.k == 1) = false := by simp [hk]
  have q3 : (v.k == 3) = true := by simp [hk]
  have s1' : (S.st == 1) = false := by simpa using hs
  clear hk hs
  go_enter Try.func23, Try.ntmps23
  go_wp2_with (first
    | ((with_reducible show wpList _ _ _ (Oper.mk (some 2) (Op.alloc _) _ _ _ _ :: _) _ _); refine wpList_alloc_agg rfl 36 rfl #[.int .i64 0, .int .i64 0, .int .i64 0, .slice none 0 0] zeroFr ?_; rw [← HU0.out, ← HG2.out])
    | ((with_reducible show wpList _ _ _ (Oper.mk (some 27) (Op.load 58 _) _ _ _ _ :: _) _ _); refine wpList_load_agg rfl 58 (.tmp 26) rfl gb (off + j * 36) rfl v.row.toArray aggCame HRZ.out HC.out ?_)
    | ((with_reducible show wpList _ _ _ (Oper.mk (some 7) (Op.alloc _) _ _ _ _ :: _) _ _); refine wpList_alloc_agg rfl 58 rfl zCame zeroCame ?_)
    | ((with_reducible show wpList _ _ _ (Oper.mk none (Op.store 58 (.tmp 7) _) _ _ _ _ :: _) _ _); refine wpList_store_whole rfl 58 (.tmp 7) (.tmp 27) rfl u0.heap.size rfl v.row rfl aggCame HRL.out _ _ HB7.out HZC.out HONE.out ?_; intro u1 b71 q71 s71; have hb1 : Below u0.heap.size u0 u1 := hb07.grown q71 hb07.size (fun k hk => by cases hk; exact Nat.le_refl _); have hz1 := hb1.size; have HM1 := Lib.hid (HM.out.below hb1); have b21 := HB2.out.below hb1 hg2'; have hg7 : u0.heap.size < u1.heap.size := b71.lt; have HC7 := Lib.hid (row4 b71); obtain ⟨u2, hu2⟩ : ∃ u, u = u1.alloc (.cells #[.int .i64 v.k, .int .i64 v.n, .int .i64 v.x, .slice v.A v.m v.c] 36) := ⟨_, rfl⟩; have hb2 : Below u1.heap.size u1 u2 := (by rw [hu2]; exact below_alloc _ _); have b82 : Blk u2 u1.heap.size 36 #[.int .i64 v.k, .int .i64 v.n, .int .i64 v.x, .slice v.A v.m v.c] := (by rw [hu2]; exact Blk.new _ _ _); have hz2 := hb2.size; have HM2 := Lib.hid (HM1.out.below hb2); have b22 := b21.below hb2 b21.lt; have b72 := b71.below hb2 b71.lt; have HU2 := Lib.hid hu2; have HB12 := Lib.hid (hb1.trans (hb2.mono hz1)); clear q71 s71 hb1 hb2 hu2 b21 b71)
    | ((with_reducible show wpList _ _ _ (Oper.mk (some 29) (Op.load 36 _) _ _ _ _ :: _) _ _); refine wpList_load_agg rfl 36 (.tmp 28) rfl u0.heap.size 0 rfl #[.int .i64 v.k, .int .i64 v.n, .int .i64 v.x, .slice v.A v.m v.c] aggFr rfl HC7.out ?_)
    | ((fail_if_success have hx := b73); go_at_call 26; rw [← HU2.out]; refine (HST.out u2 HM2.out).mono ?_; rintro e w3 ⟨rfl, hb3⟩; have hz3 := hb3.size; have b23 := b22.below hb3 b22.lt; have b73 := b72.below hb3 b72.lt; have b83 := b82.below hb3 b82.lt; have HM3 := Lib.hid (HM2.out.below hb3))
    | ((fail_if_success have hx := b74); have hprev := b73; go_at_call 26; refine (HST1.out w3 HM3.out).mono ?_; rintro e w4 ⟨rfl, hb4⟩; have hz4 := hb4.size; have b24 := b23.below hb4 b23.lt; have b74 := b73.below hb4 b73.lt; have b84 := b83.below hb4 b83.lt; have HM4 := Lib.hid (HM3.out.below hb4); have e80 : w4.cell? ⟨u1.heap.size, 0, none⟩ = some (.int .i64 v.k) := (by rw [b84.cell]; rfl); have e81 : w4.cell? ⟨u1.heap.size, 1, none⟩ = some (.int .i64 v.n) := (by rw [b84.cell]; rfl); have HW4 := Lib.hid ((HBW.out.trans (HB12.out.mono hz0)).trans ((hb3.trans (hb4.mono hz3)).mono (Nat.le_trans hz0 (Nat.le_trans hz1 hz2)))); have HB24 := Lib.hid b24; have HB74 := Lib.hid b74; have HB84 := Lib.hid b84; have hw4z : w.heap.size ≤ w4.heap.size := HW4.out.size; clear hb3 hb4 b23 b22 b72 b82 b83)
    | (go_at_call 37; refine (reject_r 12 _).mono ?_; rintro e w6 ⟨rfl, hb6⟩; have b26 := HB24.out.below hb6 HB24.out.lt; have HW6 := Lib.hid (HW4.out.trans (hb6.mono hw4z)))
    | ((with_reducible show wpList _ _ _ (Oper.mk none (Op.store 36 (.tmp 2) _) _ _ _ _ :: _) _ _); refine wpList_store_whole rfl 36 (.tmp 2) (.tmp 87) rfl g2 rfl [.int .i64 7, .int .i64 0, .int .i64 12, .slice none 0 0] rfl aggFr rfl _ _ b26 rfl (by simp [Value.oneCell']) ?_; intro w7 b27 q27 s27))
  refine bodyPost_ret (results_cell_tmp3 rfl _ g2 _ #[.int .i64 7, .int .i64 0, .int .i64 12, .slice none 0 0] aggFr rfl rfl b27) rfl ?_
  exact ⟨none, 0, rfl, own_none _ _, HW6.out.grown q27 HW6.out.size (fun k hk => by cases hk; exact hgz)⟩
set_option maxHeartbeats 4000000 in
theorem ans_L6 {w : World} {gm : Nat} {tn init : Int} {At : Option Addr} {nt ct : Nat} {th : List UInt8} {Ao : Option Addr} {no co : Nat} {ou : List UInt8} {A : Option Addr} {N C : Nat} {cs : List Cv} (h : Md w gm tn init At nt ct th Ao no co ou A N C cs) (j : Nat) (hN : N = j + 1) {v : Cv} (hv : cs[j]? = some v) {S s1 : Sst} {out : Out} (hS : stf init th ou (cs.take j) = S) (hh : hnd init th ou S v.k v.n v.ds v.dr = (s1, out)) (hk : v.k = 5) (hs : S.st ≠ 2) :
    Calls Try.prog 23 #[.pointer (some ⟨gm, 0, none⟩)] w (AnsP w out) := by
  have hbn := h.bn
  have hbo := h.bo
  have hS1 : stf init th ou (cs.take (j + 1)) = s1 := by rw [stf_take hv, hS, hh]
  have hSN : stf init th ou (cs.take N) = s1 := by rw [hN]; exact hS1
  have hgrl := gr_le (init := init) (th := th) (ou := ou) (cs := cs) j (by rw [h.len]; omega)
  rw [hS] at hgrl
  have hst : ∀ W, Md W gm tn init At nt ct th Ao no co ou A N C cs → Calls Try.prog 26 #[.pointer (some ⟨gm, 0, none⟩), .int .i64 (j : Int)] W fun e w' => e = .returned (.tuple #[.int .i64 S.st, .int .i64 (nxr S)]) ∧ Below W.heap.size W w' := fun W hM => by
    have := state_r j (by omega) hM
    rw [hS] at this
    exact this
  have hst1 : ∀ W, Md W gm tn init At nt ct th Ao no co ou A N C cs → Calls Try.prog 26 #[.pointer (some ⟨gm, 0, none⟩), .int .i64 (N : Int)] W fun e w' => e = .returned (.tuple #[.int .i64 s1.st, .int .i64 (nxr s1)]) ∧ Below W.heap.size W w' := fun W hM => by
    have := state_r N (Nat.le_refl _) hM
    rw [hSN] at this
    exact this
  have hgr1 : ∀ W, Md W gm tn init At nt ct th Ao no co ou A N C cs → Calls Try.prog 27 #[.pointer (some ⟨gm, 0, none⟩), .int .i64 (N : Int)] W fun e w' => e = .returned (.int .i64 (s1.gr : Int)) ∧ Below W.heap.size W w' := fun W hM => by
    have := greeted_r hM N (Nat.le_refl _)
    rw [hSN] at this
    exact this
  obtain ⟨u0, hu0⟩ : ∃ u, u = w.alloc (.cells #[.int .i64 0, .int .i64 0, .int .i64 0, .slice none 0 0] 36) := ⟨_, rfl⟩
  obtain ⟨g2, hg2⟩ : ∃ g, g = w.heap.size := ⟨_, rfl⟩
  have b2 : Blk u0 g2 36 #[.int .i64 0, .int .i64 0, .int .i64 0, .slice none 0 0] := by rw [hu0, hg2]; exact Blk.new _ _ _
  have hb0 : Below w.heap.size w u0 := by rw [hu0]; exact below_alloc _ _
  have hz0 := hb0.size
  have hM0 := h.below hb0
  obtain ⟨gb, off, rfl, hgb, hok, hcell⟩ := hM0.at_ hv
  have hlv : v.ds.length = v.m := hok.1.len
  have hdl : v.dr.length = 32 := hok.2.2
  have hrl : v.row.length = 36 := by simp [Cv.row, hdl]
  have hrz : v.row.toArray.size = 36 := by simp [hrl]
  have hone : ∀ x ∈ v.row, x.oneCell' = true := by
    intro x hx
    rw [Cv.row, List.mem_append] at hx
    rcases hx with hx | hx
    · simp only [List.mem_cons, List.not_mem_nil, or_false] at hx
      rcases hx with rfl | rfl | rfl | rfl <;> rfl
    · exact b8_one _ x hx
  have hN1 : (N : Int) - 1 = (j : Int) := by omega
  have hj0 : (0 : Int) ≤ (j : Int) := by omega
  have hjN : (j : Int) < (N : Int) := by omega
  have d04 : u0.cell? ⟨gm, 4, none⟩ = some (.slice (some ⟨gb, off, none⟩) N C) := by rw [hM0.blk.cell]; rfl
  have HC := Lib.hid (show ∀ (q : Nat) x, v.row.toArray[q]? = some x → u0.cell? ⟨gb, off + j * 36 + q, none⟩ = some x from fun q x hq => hcell q x (by simpa using hq))
  have b7 := Blk.new u0 58 zCame
  have hb07 := below_alloc u0 (.cells zCame 58)
  have hg2' : g2 < u0.heap.size := b2.lt
  have HB2 := Lib.hid b2
  have HB7 := Lib.hid b7
  have HM := Lib.hid hM0
  have HU0 := Lib.hid hu0
  have HG2 := Lib.hid hg2
  have HST := Lib.hid hst
  have HST1 := Lib.hid hst1
  have HGR1 := Lib.hid hgr1
  have HRZ := Lib.hid hrz
  have HRL := Lib.hid hrl
  have HONE := Lib.hid hone
  have HLV := Lib.hid hlv
  have hsv : ∀ W, Md W gm tn init At nt ct th Ao no co ou (some ⟨gb, off, none⟩) N C cs → SlB W W.heap.size v.A v.m v.c v.ds := fun W hM => (hM.oks v (List.mem_of_getElem? hv)).1
  have HSV := Lib.hid hsv
  clear hsv
  have HDL := Lib.hid hdl
  have HGRL := Lib.hid hgrl
  have HZC := Lib.hid (show zCame.size = 36 by simp [zCame, size_arr8, len_z8'])
  have hBZ := buildFrZ
  have hB4 := buildFr4
  have hgz : w.heap.size ≤ g2 := by omega
  clear h hN hv hS hS1 hSN hst hst1 hgr1 hu0 b2 hM0 hcell hok hlv hdl hrl hrz hone hgrl b7 hg2
  have HBW := Lib.hid hb0
  rw [hnd, if_neg (by omega), if_neg (by omega), if_pos hk, if_neg hs] at hh
  simp only [Prod.mk.injEq] at hh
  obtain ⟨rfl, rfl⟩ := hh
  have q1 : (v.k == 1) = false := by simp [hk]
  have q3 : (v.k == 3) = false := by simp [hk]
  have q5 : (v.k == 5) = true := by simp [hk]
  have s2' : (S.st != 2) = true := by simpa using hs
  clear hk hs
  go_enter Try.func23, Try.ntmps23
  go_wp2_with (first
    | ((with_reducible show wpList _ _ _ (Oper.mk (some 2) (Op.alloc _) _ _ _ _ :: _) _ _); refine wpList_alloc_agg rfl 36 rfl #[.int .i64 0, .int .i64 0, .int .i64 0, .slice none 0 0] zeroFr ?_; rw [← HU0.out, ← HG2.out])
    | ((with_reducible show wpList _ _ _ (Oper.mk (some 27) (Op.load 58 _) _ _ _ _ :: _) _ _); refine wpList_load_agg rfl 58 (.tmp 26) rfl gb (off + j * 36) rfl v.row.toArray aggCame HRZ.out HC.out ?_)
    | ((with_reducible show wpList _ _ _ (Oper.mk (some 7) (Op.alloc _) _ _ _ _ :: _) _ _); refine wpList_alloc_agg rfl 58 rfl zCame zeroCame ?_)
    | ((with_reducible show wpList _ _ _ (Oper.mk none (Op.store 58 (.tmp 7) _) _ _ _ _ :: _) _ _); refine wpList_store_whole rfl 58 (.tmp 7) (.tmp 27) rfl u0.heap.size rfl v.row rfl aggCame HRL.out _ _ HB7.out HZC.out HONE.out ?_; intro u1 b71 q71 s71; have hb1 : Below u0.heap.size u0 u1 := hb07.grown q71 hb07.size (fun k hk => by cases hk; exact Nat.le_refl _); have hz1 := hb1.size; have HM1 := Lib.hid (HM.out.below hb1); have b21 := HB2.out.below hb1 hg2'; have hg7 : u0.heap.size < u1.heap.size := b71.lt; have HC7 := Lib.hid (row4 b71); obtain ⟨u2, hu2⟩ : ∃ u, u = u1.alloc (.cells #[.int .i64 v.k, .int .i64 v.n, .int .i64 v.x, .slice v.A v.m v.c] 36) := ⟨_, rfl⟩; have hb2 : Below u1.heap.size u1 u2 := (by rw [hu2]; exact below_alloc _ _); have b82 : Blk u2 u1.heap.size 36 #[.int .i64 v.k, .int .i64 v.n, .int .i64 v.x, .slice v.A v.m v.c] := (by rw [hu2]; exact Blk.new _ _ _); have hz2 := hb2.size; have HM2 := Lib.hid (HM1.out.below hb2); have b22 := b21.below hb2 b21.lt; have b72 := b71.below hb2 b71.lt; have HU2 := Lib.hid hu2; have HB12 := Lib.hid (hb1.trans (hb2.mono hz1)); clear q71 s71 hb1 hb2 hu2 b21 b71)
    | ((with_reducible show wpList _ _ _ (Oper.mk (some 29) (Op.load 36 _) _ _ _ _ :: _) _ _); refine wpList_load_agg rfl 36 (.tmp 28) rfl u0.heap.size 0 rfl #[.int .i64 v.k, .int .i64 v.n, .int .i64 v.x, .slice v.A v.m v.c] aggFr rfl HC7.out ?_)
    | ((fail_if_success have hx := b73); go_at_call 26; rw [← HU2.out]; refine (HST.out u2 HM2.out).mono ?_; rintro e w3 ⟨rfl, hb3⟩; have hz3 := hb3.size; have b23 := b22.below hb3 b22.lt; have b73 := b72.below hb3 b72.lt; have b83 := b82.below hb3 b82.lt; have HM3 := Lib.hid (HM2.out.below hb3))
    | ((fail_if_success have hx := b74); have hprev := b73; go_at_call 26; refine (HST1.out w3 HM3.out).mono ?_; rintro e w4 ⟨rfl, hb4⟩; have hz4 := hb4.size; have b24 := b23.below hb4 b23.lt; have b74 := b73.below hb4 b73.lt; have b84 := b83.below hb4 b83.lt; have HM4 := Lib.hid (HM3.out.below hb4); have e80 : w4.cell? ⟨u1.heap.size, 0, none⟩ = some (.int .i64 v.k) := (by rw [b84.cell]; rfl); have e81 : w4.cell? ⟨u1.heap.size, 1, none⟩ = some (.int .i64 v.n) := (by rw [b84.cell]; rfl); have HW4 := Lib.hid ((HBW.out.trans (HB12.out.mono hz0)).trans ((hb3.trans (hb4.mono hz3)).mono (Nat.le_trans hz0 (Nat.le_trans hz1 hz2)))); have HB24 := Lib.hid b24; have HB74 := Lib.hid b74; have HB84 := Lib.hid b84; have hw4z : w.heap.size ≤ w4.heap.size := HW4.out.size; clear hb3 hb4 b23 b22 b72 b82 b83)
    | (go_at_call 37; refine (reject_r 12 _).mono ?_; rintro e w6 ⟨rfl, hb6⟩; have b26 := HB24.out.below hb6 HB24.out.lt; have HW6 := Lib.hid (HW4.out.trans (hb6.mono hw4z)))
    | ((with_reducible show wpList _ _ _ (Oper.mk none (Op.store 36 (.tmp 2) _) _ _ _ _ :: _) _ _); refine wpList_store_whole rfl 36 (.tmp 2) (.tmp 96) rfl g2 rfl [.int .i64 7, .int .i64 0, .int .i64 12, .slice none 0 0] rfl aggFr rfl _ _ b26 rfl (by simp [Value.oneCell']) ?_; intro w7 b27 q27 s27))
  refine bodyPost_ret (results_cell_tmp3 rfl _ g2 _ #[.int .i64 7, .int .i64 0, .int .i64 12, .slice none 0 0] aggFr rfl rfl b27) rfl ?_
  exact ⟨none, 0, rfl, own_none _ _, HW6.out.grown q27 HW6.out.size (fun k hk => by cases hk; exact hgz)⟩
set_option maxHeartbeats 4000000 in
theorem ans_L7 {w : World} {gm : Nat} {tn init : Int} {At : Option Addr} {nt ct : Nat} {th : List UInt8} {Ao : Option Addr} {no co : Nat} {ou : List UInt8} {A : Option Addr} {N C : Nat} {cs : List Cv} (h : Md w gm tn init At nt ct th Ao no co ou A N C cs) (j : Nat) (hN : N = j + 1) {v : Cv} (hv : cs[j]? = some v) {S s1 : Sst} {out : Out} (hS : stf init th ou (cs.take j) = S) (hh : hnd init th ou S v.k v.n v.ds v.dr = (s1, out)) (hk : v.k = 5) (hs : S.st = 2) (hn : v.n ≠ S.nx) :
    Calls Try.prog 23 #[.pointer (some ⟨gm, 0, none⟩)] w (AnsP w out) := by
  have hbn := h.bn
  have hbo := h.bo
  have hS1 : stf init th ou (cs.take (j + 1)) = s1 := by rw [stf_take hv, hS, hh]
  have hSN : stf init th ou (cs.take N) = s1 := by rw [hN]; exact hS1
  have hgrl := gr_le (init := init) (th := th) (ou := ou) (cs := cs) j (by rw [h.len]; omega)
  rw [hS] at hgrl
  have hst : ∀ W, Md W gm tn init At nt ct th Ao no co ou A N C cs → Calls Try.prog 26 #[.pointer (some ⟨gm, 0, none⟩), .int .i64 (j : Int)] W fun e w' => e = .returned (.tuple #[.int .i64 S.st, .int .i64 (nxr S)]) ∧ Below W.heap.size W w' := fun W hM => by
    have := state_r j (by omega) hM
    rw [hS] at this
    exact this
  have hst1 : ∀ W, Md W gm tn init At nt ct th Ao no co ou A N C cs → Calls Try.prog 26 #[.pointer (some ⟨gm, 0, none⟩), .int .i64 (N : Int)] W fun e w' => e = .returned (.tuple #[.int .i64 s1.st, .int .i64 (nxr s1)]) ∧ Below W.heap.size W w' := fun W hM => by
    have := state_r N (Nat.le_refl _) hM
    rw [hSN] at this
    exact this
  have hgr1 : ∀ W, Md W gm tn init At nt ct th Ao no co ou A N C cs → Calls Try.prog 27 #[.pointer (some ⟨gm, 0, none⟩), .int .i64 (N : Int)] W fun e w' => e = .returned (.int .i64 (s1.gr : Int)) ∧ Below W.heap.size W w' := fun W hM => by
    have := greeted_r hM N (Nat.le_refl _)
    rw [hSN] at this
    exact this
  obtain ⟨u0, hu0⟩ : ∃ u, u = w.alloc (.cells #[.int .i64 0, .int .i64 0, .int .i64 0, .slice none 0 0] 36) := ⟨_, rfl⟩
  obtain ⟨g2, hg2⟩ : ∃ g, g = w.heap.size := ⟨_, rfl⟩
  have b2 : Blk u0 g2 36 #[.int .i64 0, .int .i64 0, .int .i64 0, .slice none 0 0] := by rw [hu0, hg2]; exact Blk.new _ _ _
  have hb0 : Below w.heap.size w u0 := by rw [hu0]; exact below_alloc _ _
  have hz0 := hb0.size
  have hM0 := h.below hb0
  obtain ⟨gb, off, rfl, hgb, hok, hcell⟩ := hM0.at_ hv
  have hlv : v.ds.length = v.m := hok.1.len
  have hdl : v.dr.length = 32 := hok.2.2
  have hrl : v.row.length = 36 := by simp [Cv.row, hdl]
  have hrz : v.row.toArray.size = 36 := by simp [hrl]
  have hone : ∀ x ∈ v.row, x.oneCell' = true := by
    intro x hx
    rw [Cv.row, List.mem_append] at hx
    rcases hx with hx | hx
    · simp only [List.mem_cons, List.not_mem_nil, or_false] at hx
      rcases hx with rfl | rfl | rfl | rfl <;> rfl
    · exact b8_one _ x hx
  have hN1 : (N : Int) - 1 = (j : Int) := by omega
  have hj0 : (0 : Int) ≤ (j : Int) := by omega
  have hjN : (j : Int) < (N : Int) := by omega
  have d04 : u0.cell? ⟨gm, 4, none⟩ = some (.slice (some ⟨gb, off, none⟩) N C) := by rw [hM0.blk.cell]; rfl
  have HC := Lib.hid (show ∀ (q : Nat) x, v.row.toArray[q]? = some x → u0.cell? ⟨gb, off + j * 36 + q, none⟩ = some x from fun q x hq => hcell q x (by simpa using hq))
  have b7 := Blk.new u0 58 zCame
  have hb07 := below_alloc u0 (.cells zCame 58)
  have hg2' : g2 < u0.heap.size := b2.lt
  have HB2 := Lib.hid b2
  have HB7 := Lib.hid b7
  have HM := Lib.hid hM0
  have HU0 := Lib.hid hu0
  have HG2 := Lib.hid hg2
  have HST := Lib.hid hst
  have HST1 := Lib.hid hst1
  have HGR1 := Lib.hid hgr1
  have HRZ := Lib.hid hrz
  have HRL := Lib.hid hrl
  have HONE := Lib.hid hone
  have HLV := Lib.hid hlv
  have hsv : ∀ W, Md W gm tn init At nt ct th Ao no co ou (some ⟨gb, off, none⟩) N C cs → SlB W W.heap.size v.A v.m v.c v.ds := fun W hM => (hM.oks v (List.mem_of_getElem? hv)).1
  have HSV := Lib.hid hsv
  clear hsv
  have HDL := Lib.hid hdl
  have HGRL := Lib.hid hgrl
  have HZC := Lib.hid (show zCame.size = 36 by simp [zCame, size_arr8, len_z8'])
  have hBZ := buildFrZ
  have hB4 := buildFr4
  have hgz : w.heap.size ≤ g2 := by omega
  clear h hN hv hS hS1 hSN hst hst1 hgr1 hu0 b2 hM0 hcell hok hlv hdl hrl hrz hone hgrl b7 hg2
  have HBW := Lib.hid hb0
  rw [hnd, if_neg (by omega), if_neg (by omega), if_pos hk, if_pos hs, if_neg hn] at hh
  simp only [Prod.mk.injEq] at hh
  obtain ⟨rfl, rfl⟩ := hh
  have q1 : (v.k == 1) = false := by simp [hk]
  have q3 : (v.k == 3) = false := by simp [hk]
  have q5 : (v.k == 5) = true := by simp [hk]
  have hnx : nxr S = S.nx := by rw [nxr, if_pos hs]
  rw [hnx] at HST
  have s2' : (S.st != 2) = false := by simp [hs]
  have hnn : (v.n != S.nx) = true := by simpa using hn
  clear hk hs hn hnx
  go_enter Try.func23, Try.ntmps23
  go_wp2_with (first
    | ((with_reducible show wpList _ _ _ (Oper.mk (some 2) (Op.alloc _) _ _ _ _ :: _) _ _); refine wpList_alloc_agg rfl 36 rfl #[.int .i64 0, .int .i64 0, .int .i64 0, .slice none 0 0] zeroFr ?_; rw [← HU0.out, ← HG2.out])
    | ((with_reducible show wpList _ _ _ (Oper.mk (some 27) (Op.load 58 _) _ _ _ _ :: _) _ _); refine wpList_load_agg rfl 58 (.tmp 26) rfl gb (off + j * 36) rfl v.row.toArray aggCame HRZ.out HC.out ?_)
    | ((with_reducible show wpList _ _ _ (Oper.mk (some 7) (Op.alloc _) _ _ _ _ :: _) _ _); refine wpList_alloc_agg rfl 58 rfl zCame zeroCame ?_)
    | ((with_reducible show wpList _ _ _ (Oper.mk none (Op.store 58 (.tmp 7) _) _ _ _ _ :: _) _ _); refine wpList_store_whole rfl 58 (.tmp 7) (.tmp 27) rfl u0.heap.size rfl v.row rfl aggCame HRL.out _ _ HB7.out HZC.out HONE.out ?_; intro u1 b71 q71 s71; have hb1 : Below u0.heap.size u0 u1 := hb07.grown q71 hb07.size (fun k hk => by cases hk; exact Nat.le_refl _); have hz1 := hb1.size; have HM1 := Lib.hid (HM.out.below hb1); have b21 := HB2.out.below hb1 hg2'; have hg7 : u0.heap.size < u1.heap.size := b71.lt; have HC7 := Lib.hid (row4 b71); obtain ⟨u2, hu2⟩ : ∃ u, u = u1.alloc (.cells #[.int .i64 v.k, .int .i64 v.n, .int .i64 v.x, .slice v.A v.m v.c] 36) := ⟨_, rfl⟩; have hb2 : Below u1.heap.size u1 u2 := (by rw [hu2]; exact below_alloc _ _); have b82 : Blk u2 u1.heap.size 36 #[.int .i64 v.k, .int .i64 v.n, .int .i64 v.x, .slice v.A v.m v.c] := (by rw [hu2]; exact Blk.new _ _ _); have hz2 := hb2.size; have HM2 := Lib.hid (HM1.out.below hb2); have b22 := b21.below hb2 b21.lt; have b72 := b71.below hb2 b71.lt; have HU2 := Lib.hid hu2; have HB12 := Lib.hid (hb1.trans (hb2.mono hz1)); clear q71 s71 hb1 hb2 hu2 b21 b71)
    | ((with_reducible show wpList _ _ _ (Oper.mk (some 29) (Op.load 36 _) _ _ _ _ :: _) _ _); refine wpList_load_agg rfl 36 (.tmp 28) rfl u0.heap.size 0 rfl #[.int .i64 v.k, .int .i64 v.n, .int .i64 v.x, .slice v.A v.m v.c] aggFr rfl HC7.out ?_)
    | ((fail_if_success have hx := b73); go_at_call 26; rw [← HU2.out]; refine (HST.out u2 HM2.out).mono ?_; rintro e w3 ⟨rfl, hb3⟩; have hz3 := hb3.size; have b23 := b22.below hb3 b22.lt; have b73 := b72.below hb3 b72.lt; have b83 := b82.below hb3 b82.lt; have HM3 := Lib.hid (HM2.out.below hb3))
    | ((fail_if_success have hx := b74); have hprev := b73; go_at_call 26; refine (HST1.out w3 HM3.out).mono ?_; rintro e w4 ⟨rfl, hb4⟩; have hz4 := hb4.size; have b24 := b23.below hb4 b23.lt; have b74 := b73.below hb4 b73.lt; have b84 := b83.below hb4 b83.lt; have HM4 := Lib.hid (HM3.out.below hb4); have e80 : w4.cell? ⟨u1.heap.size, 0, none⟩ = some (.int .i64 v.k) := (by rw [b84.cell]; rfl); have e81 : w4.cell? ⟨u1.heap.size, 1, none⟩ = some (.int .i64 v.n) := (by rw [b84.cell]; rfl); have HW4 := Lib.hid ((HBW.out.trans (HB12.out.mono hz0)).trans ((hb3.trans (hb4.mono hz3)).mono (Nat.le_trans hz0 (Nat.le_trans hz1 hz2)))); have HB24 := Lib.hid b24; have HB74 := Lib.hid b74; have HB84 := Lib.hid b84; have hw4z : w.heap.size ≤ w4.heap.size := HW4.out.size; clear hb3 hb4 b23 b22 b72 b82 b83)
    | (go_at_call 37; refine (reject_r 13 _).mono ?_; rintro e w6 ⟨rfl, hb6⟩; have b26 := HB24.out.below hb6 HB24.out.lt; have HW6 := Lib.hid (HW4.out.trans (hb6.mono hw4z)))
    | ((with_reducible show wpList _ _ _ (Oper.mk none (Op.store 36 (.tmp 2) _) _ _ _ _ :: _) _ _); refine wpList_store_whole rfl 36 (.tmp 2) (.tmp 105) rfl g2 rfl [.int .i64 7, .int .i64 0, .int .i64 13, .slice none 0 0] rfl aggFr rfl _ _ b26 rfl (by simp [Value.oneCell']) ?_; intro w7 b27 q27 s27))
  refine bodyPost_ret (results_cell_tmp3 rfl _ g2 _ #[.int .i64 7, .int .i64 0, .int .i64 13, .slice none 0 0] aggFr rfl rfl b27) rfl ?_
  exact ⟨none, 0, rfl, own_none _ _, HW6.out.grown q27 HW6.out.size (fun k hk => by cases hk; exact hgz)⟩
set_option maxHeartbeats 4000000 in
theorem ans_L8 {w : World} {gm : Nat} {tn init : Int} {At : Option Addr} {nt ct : Nat} {th : List UInt8} {Ao : Option Addr} {no co : Nat} {ou : List UInt8} {A : Option Addr} {N C : Nat} {cs : List Cv} (h : Md w gm tn init At nt ct th Ao no co ou A N C cs) (j : Nat) (hN : N = j + 1) {v : Cv} (hv : cs[j]? = some v) {S s1 : Sst} {out : Out} (hS : stf init th ou (cs.take j) = S) (hh : hnd init th ou S v.k v.n v.ds v.dr = (s1, out)) (hk : v.k = 5) (hs : S.st = 2) (hn : v.n = S.nx) :
    Calls Try.prog 23 #[.pointer (some ⟨gm, 0, none⟩)] w (AnsP w out) := by
  have hbn := h.bn
  have hbo := h.bo
  have hS1 : stf init th ou (cs.take (j + 1)) = s1 := by rw [stf_take hv, hS, hh]
  have hSN : stf init th ou (cs.take N) = s1 := by rw [hN]; exact hS1
  have hgrl := gr_le (init := init) (th := th) (ou := ou) (cs := cs) j (by rw [h.len]; omega)
  rw [hS] at hgrl
  have hst : ∀ W, Md W gm tn init At nt ct th Ao no co ou A N C cs → Calls Try.prog 26 #[.pointer (some ⟨gm, 0, none⟩), .int .i64 (j : Int)] W fun e w' => e = .returned (.tuple #[.int .i64 S.st, .int .i64 (nxr S)]) ∧ Below W.heap.size W w' := fun W hM => by
    have := state_r j (by omega) hM
    rw [hS] at this
    exact this
  have hst1 : ∀ W, Md W gm tn init At nt ct th Ao no co ou A N C cs → Calls Try.prog 26 #[.pointer (some ⟨gm, 0, none⟩), .int .i64 (N : Int)] W fun e w' => e = .returned (.tuple #[.int .i64 s1.st, .int .i64 (nxr s1)]) ∧ Below W.heap.size W w' := fun W hM => by
    have := state_r N (Nat.le_refl _) hM
    rw [hSN] at this
    exact this
  have hgr1 : ∀ W, Md W gm tn init At nt ct th Ao no co ou A N C cs → Calls Try.prog 27 #[.pointer (some ⟨gm, 0, none⟩), .int .i64 (N : Int)] W fun e w' => e = .returned (.int .i64 (s1.gr : Int)) ∧ Below W.heap.size W w' := fun W hM => by
    have := greeted_r hM N (Nat.le_refl _)
    rw [hSN] at this
    exact this
  obtain ⟨u0, hu0⟩ : ∃ u, u = w.alloc (.cells #[.int .i64 0, .int .i64 0, .int .i64 0, .slice none 0 0] 36) := ⟨_, rfl⟩
  obtain ⟨g2, hg2⟩ : ∃ g, g = w.heap.size := ⟨_, rfl⟩
  have b2 : Blk u0 g2 36 #[.int .i64 0, .int .i64 0, .int .i64 0, .slice none 0 0] := by rw [hu0, hg2]; exact Blk.new _ _ _
  have hb0 : Below w.heap.size w u0 := by rw [hu0]; exact below_alloc _ _
  have hz0 := hb0.size
  have hM0 := h.below hb0
  obtain ⟨gb, off, rfl, hgb, hok, hcell⟩ := hM0.at_ hv
  have hlv : v.ds.length = v.m := hok.1.len
  have hdl : v.dr.length = 32 := hok.2.2
  have hrl : v.row.length = 36 := by simp [Cv.row, hdl]
  have hrz : v.row.toArray.size = 36 := by simp [hrl]
  have hone : ∀ x ∈ v.row, x.oneCell' = true := by
    intro x hx
    rw [Cv.row, List.mem_append] at hx
    rcases hx with hx | hx
    · simp only [List.mem_cons, List.not_mem_nil, or_false] at hx
      rcases hx with rfl | rfl | rfl | rfl <;> rfl
    · exact b8_one _ x hx
  have hN1 : (N : Int) - 1 = (j : Int) := by omega
  have hj0 : (0 : Int) ≤ (j : Int) := by omega
  have hjN : (j : Int) < (N : Int) := by omega
  have d04 : u0.cell? ⟨gm, 4, none⟩ = some (.slice (some ⟨gb, off, none⟩) N C) := by rw [hM0.blk.cell]; rfl
  have HC := Lib.hid (show ∀ (q : Nat) x, v.row.toArray[q]? = some x → u0.cell? ⟨gb, off + j * 36 + q, none⟩ = some x from fun q x hq => hcell q x (by simpa using hq))
  have b7 := Blk.new u0 58 zCame
  have hb07 := below_alloc u0 (.cells zCame 58)
  have hg2' : g2 < u0.heap.size := b2.lt
  have HB2 := Lib.hid b2
  have HB7 := Lib.hid b7
  have HM := Lib.hid hM0
  have HU0 := Lib.hid hu0
  have HG2 := Lib.hid hg2
  have HST := Lib.hid hst
  have HST1 := Lib.hid hst1
  have HGR1 := Lib.hid hgr1
  have HRZ := Lib.hid hrz
  have HRL := Lib.hid hrl
  have HONE := Lib.hid hone
  have HLV := Lib.hid hlv
  have hsv : ∀ W, Md W gm tn init At nt ct th Ao no co ou (some ⟨gb, off, none⟩) N C cs → SlB W W.heap.size v.A v.m v.c v.ds := fun W hM => (hM.oks v (List.mem_of_getElem? hv)).1
  have HSV := Lib.hid hsv
  clear hsv
  have HDL := Lib.hid hdl
  have HGRL := Lib.hid hgrl
  have HZC := Lib.hid (show zCame.size = 36 by simp [zCame, size_arr8, len_z8'])
  have hBZ := buildFrZ
  have hB4 := buildFr4
  have hgz : w.heap.size ≤ g2 := by omega
  clear h hN hv hS hS1 hSN hst hst1 hgr1 hu0 b2 hM0 hcell hok hlv hdl hrl hrz hone hgrl b7 hg2
  have HBW := Lib.hid hb0
  rw [hnd, if_neg (by omega), if_neg (by omega), if_pos hk, if_pos hs, if_pos hn] at hh
  simp only [Prod.mk.injEq] at hh
  obtain ⟨rfl, rfl⟩ := hh
  have q1 : (v.k == 1) = false := by simp [hk]
  have q3 : (v.k == 3) = false := by simp [hk]
  have q5 : (v.k == 5) = true := by simp [hk]
  have hnx : nxr S = S.nx := by rw [nxr, if_pos hs]
  rw [hnx] at HST
  have s2' : (S.st != 2) = false := by simp [hs]
  have hnn : (v.n != S.nx) = false := by simp [hn]
  clear hk hs hn hnx
  go_enter Try.func23, Try.ntmps23
  go_wp2_with (first
    | ((with_reducible show wpList _ _ _ (Oper.mk (some 2) (Op.alloc _) _ _ _ _ :: _) _ _); refine wpList_alloc_agg rfl 36 rfl #[.int .i64 0, .int .i64 0, .int .i64 0, .slice none 0 0] zeroFr ?_; rw [← HU0.out, ← HG2.out])
    | ((with_reducible show wpList _ _ _ (Oper.mk (some 27) (Op.load 58 _) _ _ _ _ :: _) _ _); refine wpList_load_agg rfl 58 (.tmp 26) rfl gb (off + j * 36) rfl v.row.toArray aggCame HRZ.out HC.out ?_)
    | ((with_reducible show wpList _ _ _ (Oper.mk (some 7) (Op.alloc _) _ _ _ _ :: _) _ _); refine wpList_alloc_agg rfl 58 rfl zCame zeroCame ?_)
    | ((with_reducible show wpList _ _ _ (Oper.mk none (Op.store 58 (.tmp 7) _) _ _ _ _ :: _) _ _); refine wpList_store_whole rfl 58 (.tmp 7) (.tmp 27) rfl u0.heap.size rfl v.row rfl aggCame HRL.out _ _ HB7.out HZC.out HONE.out ?_; intro u1 b71 q71 s71; have hb1 : Below u0.heap.size u0 u1 := hb07.grown q71 hb07.size (fun k hk => by cases hk; exact Nat.le_refl _); have hz1 := hb1.size; have HM1 := Lib.hid (HM.out.below hb1); have b21 := HB2.out.below hb1 hg2'; have hg7 : u0.heap.size < u1.heap.size := b71.lt; have HC7 := Lib.hid (row4 b71); obtain ⟨u2, hu2⟩ : ∃ u, u = u1.alloc (.cells #[.int .i64 v.k, .int .i64 v.n, .int .i64 v.x, .slice v.A v.m v.c] 36) := ⟨_, rfl⟩; have hb2 : Below u1.heap.size u1 u2 := (by rw [hu2]; exact below_alloc _ _); have b82 : Blk u2 u1.heap.size 36 #[.int .i64 v.k, .int .i64 v.n, .int .i64 v.x, .slice v.A v.m v.c] := (by rw [hu2]; exact Blk.new _ _ _); have hz2 := hb2.size; have HM2 := Lib.hid (HM1.out.below hb2); have b22 := b21.below hb2 b21.lt; have b72 := b71.below hb2 b71.lt; have HU2 := Lib.hid hu2; have HB12 := Lib.hid (hb1.trans (hb2.mono hz1)); clear q71 s71 hb1 hb2 hu2 b21 b71)
    | ((with_reducible show wpList _ _ _ (Oper.mk (some 29) (Op.load 36 _) _ _ _ _ :: _) _ _); refine wpList_load_agg rfl 36 (.tmp 28) rfl u0.heap.size 0 rfl #[.int .i64 v.k, .int .i64 v.n, .int .i64 v.x, .slice v.A v.m v.c] aggFr rfl HC7.out ?_)
    | ((fail_if_success have hx := b73); go_at_call 26; rw [← HU2.out]; refine (HST.out u2 HM2.out).mono ?_; rintro e w3 ⟨rfl, hb3⟩; have hz3 := hb3.size; have b23 := b22.below hb3 b22.lt; have b73 := b72.below hb3 b72.lt; have b83 := b82.below hb3 b82.lt; have HM3 := Lib.hid (HM2.out.below hb3))
    | ((fail_if_success have hx := b74); have hprev := b73; go_at_call 26; refine (HST1.out w3 HM3.out).mono ?_; rintro e w4 ⟨rfl, hb4⟩; have hz4 := hb4.size; have b24 := b23.below hb4 b23.lt; have b74 := b73.below hb4 b73.lt; have b84 := b83.below hb4 b83.lt; have HM4 := Lib.hid (HM3.out.below hb4); have e80 : w4.cell? ⟨u1.heap.size, 0, none⟩ = some (.int .i64 v.k) := (by rw [b84.cell]; rfl); have e81 : w4.cell? ⟨u1.heap.size, 1, none⟩ = some (.int .i64 v.n) := (by rw [b84.cell]; rfl); have HW4 := Lib.hid ((HBW.out.trans (HB12.out.mono hz0)).trans ((hb3.trans (hb4.mono hz3)).mono (Nat.le_trans hz0 (Nat.le_trans hz1 hz2)))); have HB24 := Lib.hid b24; have HB74 := Lib.hid b74; have HB84 := Lib.hid b84; have hw4z : w.heap.size ≤ w4.heap.size := HW4.out.size; clear hb3 hb4 b23 b22 b72 b82 b83)
    | ((with_reducible show wpList _ _ _ (Oper.mk none (Op.store 36 (.tmp 2) _) _ _ _ _ :: _) _ _); refine wpList_store_whole rfl 36 (.tmp 2) (.tmp 109) rfl g2 rfl [.int .i64 0, .int .i64 0, .int .i64 0, .slice none 0 0] rfl aggFr rfl _ _ HB24.out rfl (by simp [Value.oneCell']) ?_; intro w7 b27 q27 s27))
  refine bodyPost_ret (results_cell_tmp3 rfl _ g2 _ #[.int .i64 0, .int .i64 0, .int .i64 0, .slice none 0 0] aggFr rfl rfl b27) rfl ?_
  exact ⟨none, 0, rfl, own_none _ _, HW4.out.grown q27 HW4.out.size (fun k hk => by cases hk; exact hgz)⟩
set_option maxHeartbeats 4000000 in
theorem ans_L9 {w : World} {gm : Nat} {tn init : Int} {At : Option Addr} {nt ct : Nat} {th : List UInt8} {Ao : Option Addr} {no co : Nat} {ou : List UInt8} {A : Option Addr} {N C : Nat} {cs : List Cv} (h : Md w gm tn init At nt ct th Ao no co ou A N C cs) (j : Nat) (hN : N = j + 1) {v : Cv} (hv : cs[j]? = some v) {S s1 : Sst} {out : Out} (hS : stf init th ou (cs.take j) = S) (hh : hnd init th ou S v.k v.n v.ds v.dr = (s1, out)) (hk : v.k = 8) :
    Calls Try.prog 23 #[.pointer (some ⟨gm, 0, none⟩)] w (AnsP w out) := by
  have hbn := h.bn
  have hbo := h.bo
  have hS1 : stf init th ou (cs.take (j + 1)) = s1 := by rw [stf_take hv, hS, hh]
  have hSN : stf init th ou (cs.take N) = s1 := by rw [hN]; exact hS1
  have hgrl := gr_le (init := init) (th := th) (ou := ou) (cs := cs) j (by rw [h.len]; omega)
  rw [hS] at hgrl
  have hst : ∀ W, Md W gm tn init At nt ct th Ao no co ou A N C cs → Calls Try.prog 26 #[.pointer (some ⟨gm, 0, none⟩), .int .i64 (j : Int)] W fun e w' => e = .returned (.tuple #[.int .i64 S.st, .int .i64 (nxr S)]) ∧ Below W.heap.size W w' := fun W hM => by
    have := state_r j (by omega) hM
    rw [hS] at this
    exact this
  have hst1 : ∀ W, Md W gm tn init At nt ct th Ao no co ou A N C cs → Calls Try.prog 26 #[.pointer (some ⟨gm, 0, none⟩), .int .i64 (N : Int)] W fun e w' => e = .returned (.tuple #[.int .i64 s1.st, .int .i64 (nxr s1)]) ∧ Below W.heap.size W w' := fun W hM => by
    have := state_r N (Nat.le_refl _) hM
    rw [hSN] at this
    exact this
  have hgr1 : ∀ W, Md W gm tn init At nt ct th Ao no co ou A N C cs → Calls Try.prog 27 #[.pointer (some ⟨gm, 0, none⟩), .int .i64 (N : Int)] W fun e w' => e = .returned (.int .i64 (s1.gr : Int)) ∧ Below W.heap.size W w' := fun W hM => by
    have := greeted_r hM N (Nat.le_refl _)
    rw [hSN] at this
    exact this
  obtain ⟨u0, hu0⟩ : ∃ u, u = w.alloc (.cells #[.int .i64 0, .int .i64 0, .int .i64 0, .slice none 0 0] 36) := ⟨_, rfl⟩
  obtain ⟨g2, hg2⟩ : ∃ g, g = w.heap.size := ⟨_, rfl⟩
  have b2 : Blk u0 g2 36 #[.int .i64 0, .int .i64 0, .int .i64 0, .slice none 0 0] := by rw [hu0, hg2]; exact Blk.new _ _ _
  have hb0 : Below w.heap.size w u0 := by rw [hu0]; exact below_alloc _ _
  have hz0 := hb0.size
  have hM0 := h.below hb0
  obtain ⟨gb, off, rfl, hgb, hok, hcell⟩ := hM0.at_ hv
  have hlv : v.ds.length = v.m := hok.1.len
  have hdl : v.dr.length = 32 := hok.2.2
  have hrl : v.row.length = 36 := by simp [Cv.row, hdl]
  have hrz : v.row.toArray.size = 36 := by simp [hrl]
  have hone : ∀ x ∈ v.row, x.oneCell' = true := by
    intro x hx
    rw [Cv.row, List.mem_append] at hx
    rcases hx with hx | hx
    · simp only [List.mem_cons, List.not_mem_nil, or_false] at hx
      rcases hx with rfl | rfl | rfl | rfl <;> rfl
    · exact b8_one _ x hx
  have hN1 : (N : Int) - 1 = (j : Int) := by omega
  have hj0 : (0 : Int) ≤ (j : Int) := by omega
  have hjN : (j : Int) < (N : Int) := by omega
  have d04 : u0.cell? ⟨gm, 4, none⟩ = some (.slice (some ⟨gb, off, none⟩) N C) := by rw [hM0.blk.cell]; rfl
  have HC := Lib.hid (show ∀ (q : Nat) x, v.row.toArray[q]? = some x → u0.cell? ⟨gb, off + j * 36 + q, none⟩ = some x from fun q x hq => hcell q x (by simpa using hq))
  have b7 := Blk.new u0 58 zCame
  have hb07 := below_alloc u0 (.cells zCame 58)
  have hg2' : g2 < u0.heap.size := b2.lt
  have HB2 := Lib.hid b2
  have HB7 := Lib.hid b7
  have HM := Lib.hid hM0
  have HU0 := Lib.hid hu0
  have HG2 := Lib.hid hg2
  have HST := Lib.hid hst
  have HST1 := Lib.hid hst1
  have HGR1 := Lib.hid hgr1
  have HRZ := Lib.hid hrz
  have HRL := Lib.hid hrl
  have HONE := Lib.hid hone
  have HLV := Lib.hid hlv
  have hsv : ∀ W, Md W gm tn init At nt ct th Ao no co ou (some ⟨gb, off, none⟩) N C cs → SlB W W.heap.size v.A v.m v.c v.ds := fun W hM => (hM.oks v (List.mem_of_getElem? hv)).1
  have HSV := Lib.hid hsv
  clear hsv
  have HDL := Lib.hid hdl
  have HGRL := Lib.hid hgrl
  have HZC := Lib.hid (show zCame.size = 36 by simp [zCame, size_arr8, len_z8'])
  have hBZ := buildFrZ
  have hB4 := buildFr4
  have hgz : w.heap.size ≤ g2 := by omega
  clear h hN hv hS hS1 hSN hst hst1 hgr1 hu0 b2 hM0 hcell hok hlv hdl hrl hrz hone hgrl b7 hg2
  have HBW := Lib.hid hb0
  rw [hnd, if_neg (by omega), if_neg (by omega), if_neg (by omega), if_pos hk] at hh
  simp only [Prod.mk.injEq] at hh
  obtain ⟨rfl, rfl⟩ := hh
  have q1 : (v.k == 1) = false := by simp [hk]
  have q3 : (v.k == 3) = false := by simp [hk]
  have q5 : (v.k == 5) = false := by simp [hk]
  have q8 : (v.k == 8) = true := by simp [hk]
  clear hk
  go_enter Try.func23, Try.ntmps23
  go_wp2_with (first
    | ((with_reducible show wpList _ _ _ (Oper.mk (some 2) (Op.alloc _) _ _ _ _ :: _) _ _); refine wpList_alloc_agg rfl 36 rfl #[.int .i64 0, .int .i64 0, .int .i64 0, .slice none 0 0] zeroFr ?_; rw [← HU0.out, ← HG2.out])
    | ((with_reducible show wpList _ _ _ (Oper.mk (some 27) (Op.load 58 _) _ _ _ _ :: _) _ _); refine wpList_load_agg rfl 58 (.tmp 26) rfl gb (off + j * 36) rfl v.row.toArray aggCame HRZ.out HC.out ?_)
    | ((with_reducible show wpList _ _ _ (Oper.mk (some 7) (Op.alloc _) _ _ _ _ :: _) _ _); refine wpList_alloc_agg rfl 58 rfl zCame zeroCame ?_)
    | ((with_reducible show wpList _ _ _ (Oper.mk none (Op.store 58 (.tmp 7) _) _ _ _ _ :: _) _ _); refine wpList_store_whole rfl 58 (.tmp 7) (.tmp 27) rfl u0.heap.size rfl v.row rfl aggCame HRL.out _ _ HB7.out HZC.out HONE.out ?_; intro u1 b71 q71 s71; have hb1 : Below u0.heap.size u0 u1 := hb07.grown q71 hb07.size (fun k hk => by cases hk; exact Nat.le_refl _); have hz1 := hb1.size; have HM1 := Lib.hid (HM.out.below hb1); have b21 := HB2.out.below hb1 hg2'; have hg7 : u0.heap.size < u1.heap.size := b71.lt; have HC7 := Lib.hid (row4 b71); obtain ⟨u2, hu2⟩ : ∃ u, u = u1.alloc (.cells #[.int .i64 v.k, .int .i64 v.n, .int .i64 v.x, .slice v.A v.m v.c] 36) := ⟨_, rfl⟩; have hb2 : Below u1.heap.size u1 u2 := (by rw [hu2]; exact below_alloc _ _); have b82 : Blk u2 u1.heap.size 36 #[.int .i64 v.k, .int .i64 v.n, .int .i64 v.x, .slice v.A v.m v.c] := (by rw [hu2]; exact Blk.new _ _ _); have hz2 := hb2.size; have HM2 := Lib.hid (HM1.out.below hb2); have b22 := b21.below hb2 b21.lt; have b72 := b71.below hb2 b71.lt; have HU2 := Lib.hid hu2; have HB12 := Lib.hid (hb1.trans (hb2.mono hz1)); clear q71 s71 hb1 hb2 hu2 b21 b71)
    | ((with_reducible show wpList _ _ _ (Oper.mk (some 29) (Op.load 36 _) _ _ _ _ :: _) _ _); refine wpList_load_agg rfl 36 (.tmp 28) rfl u0.heap.size 0 rfl #[.int .i64 v.k, .int .i64 v.n, .int .i64 v.x, .slice v.A v.m v.c] aggFr rfl HC7.out ?_)
    | ((fail_if_success have hx := b73); go_at_call 26; rw [← HU2.out]; refine (HST.out u2 HM2.out).mono ?_; rintro e w3 ⟨rfl, hb3⟩; have hz3 := hb3.size; have b23 := b22.below hb3 b22.lt; have b73 := b72.below hb3 b72.lt; have b83 := b82.below hb3 b82.lt; have HM3 := Lib.hid (HM2.out.below hb3))
    | ((fail_if_success have hx := b74); have hprev := b73; go_at_call 26; refine (HST1.out w3 HM3.out).mono ?_; rintro e w4 ⟨rfl, hb4⟩; have hz4 := hb4.size; have b24 := b23.below hb4 b23.lt; have b74 := b73.below hb4 b73.lt; have b84 := b83.below hb4 b83.lt; have HM4 := Lib.hid (HM3.out.below hb4); have e80 : w4.cell? ⟨u1.heap.size, 0, none⟩ = some (.int .i64 v.k) := (by rw [b84.cell]; rfl); have e81 : w4.cell? ⟨u1.heap.size, 1, none⟩ = some (.int .i64 v.n) := (by rw [b84.cell]; rfl); have HW4 := Lib.hid ((HBW.out.trans (HB12.out.mono hz0)).trans ((hb3.trans (hb4.mono hz3)).mono (Nat.le_trans hz0 (Nat.le_trans hz1 hz2)))); have HB24 := Lib.hid b24; have HB74 := Lib.hid b74; have HB84 := Lib.hid b84; have hw4z : w.heap.size ≤ w4.heap.size := HW4.out.size; clear hb3 hb4 b23 b22 b72 b82 b83)
    | ((with_reducible show wpList _ _ _ (Oper.mk none (Op.store 36 (.tmp 2) _) _ _ _ _ :: _) _ _); refine wpList_store_whole rfl 36 (.tmp 2) (.tmp 112) rfl g2 rfl [.int .i64 0, .int .i64 0, .int .i64 0, .slice none 0 0] rfl aggFr rfl _ _ HB24.out rfl (by simp [Value.oneCell']) ?_; intro w7 b27 q27 s27))
  refine bodyPost_ret (results_cell_tmp3 rfl _ g2 _ #[.int .i64 0, .int .i64 0, .int .i64 0, .slice none 0 0] aggFr rfl rfl b27) rfl ?_
  exact ⟨none, 0, rfl, own_none _ _, HW4.out.grown q27 HW4.out.size (fun k hk => by cases hk; exact hgz)⟩
set_option maxHeartbeats 4000000 in
theorem ans_L10 {w : World} {gm : Nat} {tn init : Int} {At : Option Addr} {nt ct : Nat} {th : List UInt8} {Ao : Option Addr} {no co : Nat} {ou : List UInt8} {A : Option Addr} {N C : Nat} {cs : List Cv} (h : Md w gm tn init At nt ct th Ao no co ou A N C cs) (j : Nat) (hN : N = j + 1) {v : Cv} (hv : cs[j]? = some v) {S s1 : Sst} {out : Out} (hS : stf init th ou (cs.take j) = S) (hh : hnd init th ou S v.k v.n v.ds v.dr = (s1, out)) (hk : v.k ≠ 1) (hk3 : v.k ≠ 3) (hk5 : v.k ≠ 5) (hk8 : v.k ≠ 8) :
    Calls Try.prog 23 #[.pointer (some ⟨gm, 0, none⟩)] w (AnsP w out) := by
  have hbn := h.bn
  have hbo := h.bo
  have hS1 : stf init th ou (cs.take (j + 1)) = s1 := by rw [stf_take hv, hS, hh]
  have hSN : stf init th ou (cs.take N) = s1 := by rw [hN]; exact hS1
  have hgrl := gr_le (init := init) (th := th) (ou := ou) (cs := cs) j (by rw [h.len]; omega)
  rw [hS] at hgrl
  have hst : ∀ W, Md W gm tn init At nt ct th Ao no co ou A N C cs → Calls Try.prog 26 #[.pointer (some ⟨gm, 0, none⟩), .int .i64 (j : Int)] W fun e w' => e = .returned (.tuple #[.int .i64 S.st, .int .i64 (nxr S)]) ∧ Below W.heap.size W w' := fun W hM => by
    have := state_r j (by omega) hM
    rw [hS] at this
    exact this
  have hst1 : ∀ W, Md W gm tn init At nt ct th Ao no co ou A N C cs → Calls Try.prog 26 #[.pointer (some ⟨gm, 0, none⟩), .int .i64 (N : Int)] W fun e w' => e = .returned (.tuple #[.int .i64 s1.st, .int .i64 (nxr s1)]) ∧ Below W.heap.size W w' := fun W hM => by
    have := state_r N (Nat.le_refl _) hM
    rw [hSN] at this
    exact this
  have hgr1 : ∀ W, Md W gm tn init At nt ct th Ao no co ou A N C cs → Calls Try.prog 27 #[.pointer (some ⟨gm, 0, none⟩), .int .i64 (N : Int)] W fun e w' => e = .returned (.int .i64 (s1.gr : Int)) ∧ Below W.heap.size W w' := fun W hM => by
    have := greeted_r hM N (Nat.le_refl _)
    rw [hSN] at this
    exact this
  obtain ⟨u0, hu0⟩ : ∃ u, u = w.alloc (.cells #[.int .i64 0, .int .i64 0, .int .i64 0, .slice none 0 0] 36) := ⟨_, rfl⟩
  obtain ⟨g2, hg2⟩ : ∃ g, g = w.heap.size := ⟨_, rfl⟩
  have b2 : Blk u0 g2 36 #[.int .i64 0, .int .i64 0, .int .i64 0, .slice none 0 0] := by rw [hu0, hg2]; exact Blk.new _ _ _
  have hb0 : Below w.heap.size w u0 := by rw [hu0]; exact below_alloc _ _
  have hz0 := hb0.size
  have hM0 := h.below hb0
  obtain ⟨gb, off, rfl, hgb, hok, hcell⟩ := hM0.at_ hv
  have hlv : v.ds.length = v.m := hok.1.len
  have hdl : v.dr.length = 32 := hok.2.2
  have hrl : v.row.length = 36 := by simp [Cv.row, hdl]
  have hrz : v.row.toArray.size = 36 := by simp [hrl]
  have hone : ∀ x ∈ v.row, x.oneCell' = true := by
    intro x hx
    rw [Cv.row, List.mem_append] at hx
    rcases hx with hx | hx
    · simp only [List.mem_cons, List.not_mem_nil, or_false] at hx
      rcases hx with rfl | rfl | rfl | rfl <;> rfl
    · exact b8_one _ x hx
  have hN1 : (N : Int) - 1 = (j : Int) := by omega
  have hj0 : (0 : Int) ≤ (j : Int) := by omega
  have hjN : (j : Int) < (N : Int) := by omega
  have d04 : u0.cell? ⟨gm, 4, none⟩ = some (.slice (some ⟨gb, off, none⟩) N C) := by rw [hM0.blk.cell]; rfl
  have HC := Lib.hid (show ∀ (q : Nat) x, v.row.toArray[q]? = some x → u0.cell? ⟨gb, off + j * 36 + q, none⟩ = some x from fun q x hq => hcell q x (by simpa using hq))
  have b7 := Blk.new u0 58 zCame
  have hb07 := below_alloc u0 (.cells zCame 58)
  have hg2' : g2 < u0.heap.size := b2.lt
  have HB2 := Lib.hid b2
  have HB7 := Lib.hid b7
  have HM := Lib.hid hM0
  have HU0 := Lib.hid hu0
  have HG2 := Lib.hid hg2
  have HST := Lib.hid hst
  have HST1 := Lib.hid hst1
  have HGR1 := Lib.hid hgr1
  have HRZ := Lib.hid hrz
  have HRL := Lib.hid hrl
  have HONE := Lib.hid hone
  have HLV := Lib.hid hlv
  have hsv : ∀ W, Md W gm tn init At nt ct th Ao no co ou (some ⟨gb, off, none⟩) N C cs → SlB W W.heap.size v.A v.m v.c v.ds := fun W hM => (hM.oks v (List.mem_of_getElem? hv)).1
  have HSV := Lib.hid hsv
  clear hsv
  have HDL := Lib.hid hdl
  have HGRL := Lib.hid hgrl
  have HZC := Lib.hid (show zCame.size = 36 by simp [zCame, size_arr8, len_z8'])
  have hBZ := buildFrZ
  have hB4 := buildFr4
  have hgz : w.heap.size ≤ g2 := by omega
  clear h hN hv hS hS1 hSN hst hst1 hgr1 hu0 b2 hM0 hcell hok hlv hdl hrl hrz hone hgrl b7 hg2
  have HBW := Lib.hid hb0
  rw [hnd, if_neg hk, if_neg hk3, if_neg hk5, if_neg hk8] at hh
  simp only [Prod.mk.injEq] at hh
  obtain ⟨rfl, rfl⟩ := hh
  have q1 : (v.k == 1) = false := by simpa using hk
  have q3 : (v.k == 3) = false := by simpa using hk3
  have q5 : (v.k == 5) = false := by simpa using hk5
  have q8 : (v.k == 8) = false := by simpa using hk8
  clear hk hk3 hk5 hk8
  go_enter Try.func23, Try.ntmps23
  go_wp2_with (first
    | ((with_reducible show wpList _ _ _ (Oper.mk (some 2) (Op.alloc _) _ _ _ _ :: _) _ _); refine wpList_alloc_agg rfl 36 rfl #[.int .i64 0, .int .i64 0, .int .i64 0, .slice none 0 0] zeroFr ?_; rw [← HU0.out, ← HG2.out])
    | ((with_reducible show wpList _ _ _ (Oper.mk (some 27) (Op.load 58 _) _ _ _ _ :: _) _ _); refine wpList_load_agg rfl 58 (.tmp 26) rfl gb (off + j * 36) rfl v.row.toArray aggCame HRZ.out HC.out ?_)
    | ((with_reducible show wpList _ _ _ (Oper.mk (some 7) (Op.alloc _) _ _ _ _ :: _) _ _); refine wpList_alloc_agg rfl 58 rfl zCame zeroCame ?_)
    | ((with_reducible show wpList _ _ _ (Oper.mk none (Op.store 58 (.tmp 7) _) _ _ _ _ :: _) _ _); refine wpList_store_whole rfl 58 (.tmp 7) (.tmp 27) rfl u0.heap.size rfl v.row rfl aggCame HRL.out _ _ HB7.out HZC.out HONE.out ?_; intro u1 b71 q71 s71; have hb1 : Below u0.heap.size u0 u1 := hb07.grown q71 hb07.size (fun k hk => by cases hk; exact Nat.le_refl _); have hz1 := hb1.size; have HM1 := Lib.hid (HM.out.below hb1); have b21 := HB2.out.below hb1 hg2'; have hg7 : u0.heap.size < u1.heap.size := b71.lt; have HC7 := Lib.hid (row4 b71); obtain ⟨u2, hu2⟩ : ∃ u, u = u1.alloc (.cells #[.int .i64 v.k, .int .i64 v.n, .int .i64 v.x, .slice v.A v.m v.c] 36) := ⟨_, rfl⟩; have hb2 : Below u1.heap.size u1 u2 := (by rw [hu2]; exact below_alloc _ _); have b82 : Blk u2 u1.heap.size 36 #[.int .i64 v.k, .int .i64 v.n, .int .i64 v.x, .slice v.A v.m v.c] := (by rw [hu2]; exact Blk.new _ _ _); have hz2 := hb2.size; have HM2 := Lib.hid (HM1.out.below hb2); have b22 := b21.below hb2 b21.lt; have b72 := b71.below hb2 b71.lt; have HU2 := Lib.hid hu2; have HB12 := Lib.hid (hb1.trans (hb2.mono hz1)); clear q71 s71 hb1 hb2 hu2 b21 b71)
    | ((with_reducible show wpList _ _ _ (Oper.mk (some 29) (Op.load 36 _) _ _ _ _ :: _) _ _); refine wpList_load_agg rfl 36 (.tmp 28) rfl u0.heap.size 0 rfl #[.int .i64 v.k, .int .i64 v.n, .int .i64 v.x, .slice v.A v.m v.c] aggFr rfl HC7.out ?_)
    | ((fail_if_success have hx := b73); go_at_call 26; rw [← HU2.out]; refine (HST.out u2 HM2.out).mono ?_; rintro e w3 ⟨rfl, hb3⟩; have hz3 := hb3.size; have b23 := b22.below hb3 b22.lt; have b73 := b72.below hb3 b72.lt; have b83 := b82.below hb3 b82.lt; have HM3 := Lib.hid (HM2.out.below hb3))
    | ((fail_if_success have hx := b74); have hprev := b73; go_at_call 26; refine (HST1.out w3 HM3.out).mono ?_; rintro e w4 ⟨rfl, hb4⟩; have hz4 := hb4.size; have b24 := b23.below hb4 b23.lt; have b74 := b73.below hb4 b73.lt; have b84 := b83.below hb4 b83.lt; have HM4 := Lib.hid (HM3.out.below hb4); have e80 : w4.cell? ⟨u1.heap.size, 0, none⟩ = some (.int .i64 v.k) := (by rw [b84.cell]; rfl); have e81 : w4.cell? ⟨u1.heap.size, 1, none⟩ = some (.int .i64 v.n) := (by rw [b84.cell]; rfl); have HW4 := Lib.hid ((HBW.out.trans (HB12.out.mono hz0)).trans ((hb3.trans (hb4.mono hz3)).mono (Nat.le_trans hz0 (Nat.le_trans hz1 hz2)))); have HB24 := Lib.hid b24; have HB74 := Lib.hid b74; have HB84 := Lib.hid b84; have hw4z : w.heap.size ≤ w4.heap.size := HW4.out.size; clear hb3 hb4 b23 b22 b72 b82 b83)
    | (go_at_call 37; refine (reject_r 10 _).mono ?_; rintro e w6 ⟨rfl, hb6⟩; have b26 := HB24.out.below hb6 HB24.out.lt; have HW6 := Lib.hid (HW4.out.trans (hb6.mono hw4z)))
    | ((with_reducible show wpList _ _ _ (Oper.mk none (Op.store 36 (.tmp 2) _) _ _ _ _ :: _) _ _); refine wpList_store_whole rfl 36 (.tmp 2) (.tmp 114) rfl g2 rfl [.int .i64 7, .int .i64 0, .int .i64 10, .slice none 0 0] rfl aggFr rfl _ _ b26 rfl (by simp [Value.oneCell']) ?_; intro w7 b27 q27 s27))
  refine bodyPost_ret (results_cell_tmp3 rfl _ g2 _ #[.int .i64 7, .int .i64 0, .int .i64 10, .slice none 0 0] aggFr rfl rfl b27) rfl ?_
  exact ⟨none, 0, rfl, own_none _ _, HW6.out.grown q27 HW6.out.size (fun k hk => by cases hk; exact hgz)⟩
theorem ans_r {w : World} {gm : Nat} {tn init : Int} {At : Option Addr} {nt ct : Nat} {th : List UInt8} {Ao : Option Addr} {no co : Nat} {ou : List UInt8} {A : Option Addr} {N C : Nat} {cs : List Cv} (h : Md w gm tn init At nt ct th Ao no co ou A N C cs) (j : Nat) (hN : N = j + 1) {v : Cv} (hv : cs[j]? = some v) {S s1 : Sst} {out : Out} (hS : stf init th ou (cs.take j) = S) (hh : hnd init th ou S v.k v.n v.ds v.dr = (s1, out)) :
    Calls Try.prog 23 #[.pointer (some ⟨gm, 0, none⟩)] w (AnsP w out) := by
  by_cases hk : v.k = 1
  · by_cases hg : v.n = init ∧ 16 ≤ v.ds.length ∧ v.ds.length ≤ 64
    · skip
      exact ans_L2 h j hN hv hS hh hk hg
    · skip
      exact ans_L1 h j hN hv hS hh hk hg
  by_cases hk3 : v.k = 3
  · have hk := hk3
    by_cases hs : S.st = 1
    · by_cases ha : (ansOf ((S.gr % 256 : Nat) : Int) th S.ch == v.ds) = true
      · skip
        exact ans_L3 h j hN hv hS hh hk hs ha
      · skip
        exact ans_L4 h j hN hv hS hh hk hs ha
    · skip
      exact ans_L5 h j hN hv hS hh hk hs
  by_cases hk5 : v.k = 5
  · have hk := hk5
    by_cases hs : S.st = 2
    · by_cases hn : v.n = S.nx
      · skip
        exact ans_L8 h j hN hv hS hh hk hs hn
      · skip
        exact ans_L7 h j hN hv hS hh hk hs hn
    · skip
      exact ans_L6 h j hN hv hS hh hk hs
  by_cases hk8 : v.k = 8
  · have hk := hk8
    exact ans_L9 h j hN hv hS hh hk
  exact ans_L10 h j hN hv hS hh hk hk3 hk5 hk8
end Go.Proofs.Ytiadfbcdopfibaa

