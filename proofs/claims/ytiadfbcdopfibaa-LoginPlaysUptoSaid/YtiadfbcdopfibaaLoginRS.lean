/-
  login: the document's State (printed by wip/gen_login14.py).
-/
import Derived.Test.YtiadfbcdopfibaaLoginR
namespace Go.Proofs.Ytiadfbcdopfibaa
open Go.RowKit
set_option linter.unusedVariables false
set_option linter.unusedSimpArgs false
set_option maxRecDepth 100000
theorem cells4 {w : World} {gb o : Nat} {v : Cv} (h : ∀ j u, v.row[j]? = some u → w.cell? ⟨gb, o + j, none⟩ = some u) : ∀ (q : Nat) u, (#[.int .i64 v.k, .int .i64 v.n, .int .i64 v.x, .slice v.A v.m v.c] : Array Value)[q]? = some u → w.cell? ⟨gb, o + q, none⟩ = some u := fun q u hq => h q u (by
  match q, hq with
  | 0, h => simpa [Cv.row] using h
  | 1, h => simpa [Cv.row] using h
  | 2, h => simpa [Cv.row] using h
  | 3, h => simpa [Cv.row] using h
  | q + 4, h => simp at h)
theorem nx_le {init : Int} {th ou : List UInt8} {cs : List Cv} : ∀ i, i ≤ cs.length → 0 ≤ (stf init th ou (cs.take i)).nx ∧ (stf init th ou (cs.take i)).nx ≤ (i : Int)
  | 0, _ => by simp [stf]
  | i + 1, h => by
    obtain ⟨h1, h2⟩ := nx_le (init := init) (th := th) (ou := ou) (cs := cs) i (by omega)
    rw [stf_take (List.getElem?_eq_getElem (show i < cs.length by omega))]
    obtain ⟨_, h3, h4⟩ := hnd_b (init := init) (th := th) (ou := ou) (s := stf init th ou (cs.take i)) (k := cs[i].k) (n := cs[i].n) (ds := cs[i].ds) (dr := cs[i].dr) rfl h1
    refine ⟨h3, ?_⟩
    rcases h4 with h4 | h4
    · exact Int.le_trans h4 (by omega)
    · exact Int.le_trans (Int.le_of_eq h4) (by omega)
theorem dr_sl {w : World} {gb o : Nat} {v : Cv} (h : ∀ j u, v.row[j]? = some u → w.cell? ⟨gb, o + j, none⟩ = some u) (hb : gb < w.heap.size) (hl : v.dr.length = 32) : SlB w w.heap.size (some ⟨gb, o + 4, none⟩) 32 32 v.dr :=
  ⟨by simp [hl], Nat.le_refl _, by simp [maxLen], fun _ => ⟨gb, o + 4, rfl, hb, fun j u hu => by
    have := h (4 + j) u (by
      rw [Cv.row, List.getElem?_append_right (by simp)]
      simpa using hu)
    rwa [← Nat.add_assoc] at this⟩⟩
theorem hnd_G {init : Int} {th ou : List UInt8} {s s1 : Sst} {k n : Int} {ds dr : List UInt8} {out : Out} (h : hnd init th ou s k n ds dr = (s1, out)) (hg : k = 1 ∧ n = init ∧ 16 ≤ ds.length ∧ ds.length ≤ 64) : s1 = ⟨1, s.gr + 1, s.nx, dr⟩ ∧ out = ⟨true, 2, (((s.gr + 1) % 256 : Nat) : Int), 0, dr ++ ansOf (((s.gr + 1) % 256 : Nat) : Int) ou ds, true, false⟩ := by
  rw [hg.1, hg.2.1, hnd, if_pos rfl, if_pos ⟨rfl, hg.2.2⟩] at h
  simp only [Prod.mk.injEq] at h
  exact ⟨h.1.symm, h.2.symm⟩
theorem hnd_nG {init : Int} {th ou : List UInt8} {s s1 : Sst} {k n : Int} {ds dr : List UInt8} {out : Out} (h : hnd init th ou s k n ds dr = (s1, out)) (hg : ¬ (k = 1 ∧ n = init ∧ 16 ≤ ds.length ∧ ds.length ≤ 64)) : ¬ (k = 1 ∧ s1 = ⟨1, s.gr + 1, s.nx, dr⟩ ∧ out.drew = true ∧ out.taken = false) := fun hx => by
  have := hnd_gr (init := init) (th := th) (ou := ou) (s := s) (k := k) (n := n) (ds := ds) (dr := dr)
  rw [h, decide_eq_false hg, if_neg Bool.false_ne_true, hx.2.1] at this
  simp at this
def nxr (s : Sst) : Int := if s.st = 2 then s.nx else 0
set_option maxHeartbeats 4000000 in
theorem state_step {w : World} {gm : Nat} {tn init : Int} {At : Option Addr} {nt ct : Nat} {th : List UInt8} {Ao : Option Addr} {no co : Nat} {ou : List UInt8} {A : Option Addr} {N C : Nat} {cs : List Cv} (h : Md w gm tn init At nt ct th Ao no co ou A N C cs) (j : Nat) (hj : j < N) (iv : Int) (hiv : iv = (j : Int) + 1)
    (ih : ∀ W, Below w.heap.size w W → Calls Try.prog 26 #[.pointer (some ⟨gm, 0, none⟩), .int .i64 (j : Int)] W fun e w' => e = .returned (.tuple #[.int .i64 (stf init th ou (cs.take j)).st, .int .i64 (nxr (stf init th ou (cs.take j)))]) ∧ Below W.heap.size W w') :
    Calls Try.prog 26 #[.pointer (some ⟨gm, 0, none⟩), .int .i64 iv] w fun e w' => e = .returned (.tuple #[.int .i64 (stf init th ou (cs.take (j + 1))).st, .int .i64 (nxr (stf init th ou (cs.take (j + 1))))]) ∧ Below w.heap.size w w' := by
  have hbn := h.bn
  have hbt := h.bt
  obtain ⟨v, hv⟩ : ∃ v, cs[j]? = some v := ⟨cs[j]'(by rw [h.len]; omega), List.getElem?_eq_getElem _⟩
  rw [stf_take hv]
  have hgrl := gr_le (init := init) (th := th) (ou := ou) (cs := cs) j (by rw [h.len]; omega)
  have hnxb := nx_le (init := init) (th := th) (ou := ou) (cs := cs) j (by rw [h.len]; omega)
  have hlast := last_greet (init := init) (th := th) (ou := ou) (cs := cs) j (by rw [h.len]; omega)
  obtain ⟨S, hS⟩ : ∃ S, S = stf init th ou (cs.take j) := ⟨_, rfl⟩
  rw [← hS] at ih hgrl hlast hnxb ⊢
  obtain ⟨s1, out, hh⟩ : ∃ s1 out, hnd init th ou S v.k v.n v.ds v.dr = (s1, out) := ⟨_, _, rfl⟩
  rw [hh]
  simp only
  have hj0 : (0 : Int) ≤ (j : Int) := by omega
  have hjN : (j : Int) < (N : Int) := by omega
  have hj3 : (j : Int) ≤ 300 := by omega
  have hs1' : iv - 1 = (j : Int) := by omega
  have hiv0 : (iv == 0) = false := by simp; omega
  have hiv1 : 1 ≤ iv := by omega
  have hiv3 : iv ≤ 301 := by omega
  have HM := Lib.hid h
  have HV := Lib.hid hv
  have HS := Lib.hid hS
  have HIH := Lib.hid ih
  have HIV := Lib.hid hiv
  have hlv : v.ds.length = v.m := (h.oks v (List.mem_of_getElem? hv)).1.len
  have hdl : v.dr.length = 32 := (h.oks v (List.mem_of_getElem? hv)).2.2
  have HLV := Lib.hid hlv
  have HLAST := Lib.hid hlast
  have HNXB := Lib.hid hnxb
  have HGRL := Lib.hid hgrl
  clear h hv hS ih hiv hlast hnxb hgrl
  go_enter Try.func26, Try.ntmps26
  by_cases hG : v.k = 1 ∧ v.n = init ∧ 16 ≤ v.ds.length ∧ v.ds.length ≤ 64
  · obtain ⟨rfl, -⟩ := hnd_G hh hG
    have HGD := Lib.hid (show decide (v.k = 1 ∧ v.n = init ∧ 16 ≤ v.m ∧ v.m ≤ 64) = true by rw [← HLV.out]; exact decide_eq_true hG)
    clear hG hh hlv hdl
    go_wp2_with (first
      | (go_at_call 26; refine (HIH.out w (Below.refl _ _)).mono ?_; rintro e w1 ⟨rfl, hb1⟩; have hM1 := HM.out.below hb1; have hz1 := hb1.size; obtain ⟨gb, off, hA, hgb, hok, hcell⟩ := hM1.at_ HV.out; subst hA; have d14 : w1.cell? ⟨gm, 1 + 3, none⟩ = some (.slice (some ⟨gb, off, none⟩) N C) := (by rw [hM1.blk.cell]; rfl); have HC := Lib.hid (cells4 hcell); obtain ⟨u1, hu1⟩ : ∃ u, u = w1.alloc (.cells #[.int .i64 v.k, .int .i64 v.n, .int .i64 v.x, .slice v.A v.m v.c] 36) := ⟨_, rfl⟩; have hbu1 : Below w1.heap.size w1 u1 := (by rw [hu1]; exact below_alloc _ _); have bu1 : Blk u1 w1.heap.size 36 #[.int .i64 v.k, .int .i64 v.n, .int .i64 v.x, .slice v.A v.m v.c] := (by rw [hu1]; exact Blk.new _ _ _); have HMU := Lib.hid (hM1.below hbu1); have HU1 := Lib.hid hu1; have HBU := Lib.hid bu1; clear hM1 hcell hok hu1 bu1)
      | ((with_reducible show wpList _ _ _ (Oper.mk (some 28) (Op.load 36 _) _ _ _ _ :: _) _ _); refine wpList_load_agg rfl 36 (.tmp 27) rfl gb (off + j * 36) rfl #[.int .i64 v.k, .int .i64 v.n, .int .i64 v.x, .slice v.A v.m v.c] aggFr rfl HC.out ?_)
      | ((with_reducible show wpList _ _ _ (Oper.mk (some 30) (Op.load 36 _) _ _ _ _ :: _) _ _); rw [← HU1.out]; refine wpList_load_whole rfl 36 (.tmp 8) rfl w1.heap.size rfl #[.int .i64 v.k, .int .i64 v.n, .int .i64 v.x, .slice v.A v.m v.c] aggFr rfl _ HBU.out ?_)
      | (go_at_call 36; refine (greets_c HMU.out v.k v.n v.x v.A v.m v.c true HGD.out).mono ?_; rintro e w2 ⟨rfl, hb2⟩; have hM2 := HMU.out.below hb2; have b2 := HBU.out.below hb2 HBU.out.lt; have e20 : w2.cell? ⟨w1.heap.size, 0, none⟩ = some (.int .i64 v.k) := (by rw [b2.cell]; rfl); have e21 : w2.cell? ⟨w1.heap.size, 1, none⟩ = some (.int .i64 v.n) := (by rw [b2.cell]; rfl); have hz2 := hb2.size; have HM2 := Lib.hid hM2; have HB2 := Lib.hid b2; clear hM2 b2))
    refine bodyPost_ret (results_tmp2 rfl _ _ _) rfl ?_
    exact ⟨rfl, hb1.trans ((hbu1.trans (hb2.mono hbu1.size)).mono hz1)⟩
  have hnG := hnd_nG hh hG
  have HGD := Lib.hid (show decide (v.k = 1 ∧ v.n = init ∧ 16 ≤ v.m ∧ v.m ≤ 64) = false by rw [← HLV.out]; exact decide_eq_false hG)
  have hcs := hnd_cases hh
  have HDL := Lib.hid hdl
  clear hG hh hlv hdl
  rcases hcs with hx | ⟨hk, hst, _, _, hres⟩ | ⟨hk, rfl, _, _⟩ | ⟨hk, hst, hn, rfl, _, _⟩ | ⟨rfl, _, _, hn8, hn3, hn5⟩
  · exact absurd hx hnG
  · clear hnG
    obtain ⟨p, u, hpj, hpu, hgu, hch, hmin⟩ := HLAST.out hst
    obtain ⟨jm, hjj⟩ : ∃ jm, j = jm + 1 := ⟨j - 1, by omega⟩
    have hjm : iv - 2 = (jm : Int) := by have := HIV.out; omega
    have hpjm : p ≤ jm := by omega
    have hjmj : jm < j := by omega
    clear hjj
    have q3 : (v.k == 3) = true := by simp [hk]
    have q8 : (v.k == 8) = false := by simp [hk]
    have s1' : (S.st == 1) = true := by simp [hst]
    have hp0 : (0 : Int) ≤ (p : Int) := by omega
    have hpN : (p : Int) < (N : Int) := by omega
    have HPU := Lib.hid hpu
    have HGU := Lib.hid hgu
    have HCH := Lib.hid hch
    have HMIN := Lib.hid hmin
    have HRES := Lib.hid hres
    clear hk hst hpu hgu hch hmin hres
    go_wp2_with (first
      | (go_at_call 26; refine (HIH.out w (Below.refl _ _)).mono ?_; rintro e w1 ⟨rfl, hb1⟩; have hM1 := HM.out.below hb1; have hz1 := hb1.size; obtain ⟨gb, off, hA, hgb, hok, hcell⟩ := hM1.at_ HV.out; subst hA; have d14 : w1.cell? ⟨gm, 1 + 3, none⟩ = some (.slice (some ⟨gb, off, none⟩) N C) := (by rw [hM1.blk.cell]; rfl); have HC := Lib.hid (cells4 hcell); obtain ⟨u1, hu1⟩ : ∃ u, u = w1.alloc (.cells #[.int .i64 v.k, .int .i64 v.n, .int .i64 v.x, .slice v.A v.m v.c] 36) := ⟨_, rfl⟩; have hbu1 : Below w1.heap.size w1 u1 := (by rw [hu1]; exact below_alloc _ _); have bu1 : Blk u1 w1.heap.size 36 #[.int .i64 v.k, .int .i64 v.n, .int .i64 v.x, .slice v.A v.m v.c] := (by rw [hu1]; exact Blk.new _ _ _); have HMU := Lib.hid (hM1.below hbu1); have HU1 := Lib.hid hu1; have HBU := Lib.hid bu1; clear hM1 hcell hok hu1 bu1)
      | ((with_reducible show wpList _ _ _ (Oper.mk (some 28) (Op.load 36 _) _ _ _ _ :: _) _ _); refine wpList_load_agg rfl 36 (.tmp 27) rfl gb (off + j * 36) rfl #[.int .i64 v.k, .int .i64 v.n, .int .i64 v.x, .slice v.A v.m v.c] aggFr rfl HC.out ?_)
      | ((with_reducible show wpList _ _ _ (Oper.mk (some 30) (Op.load 36 _) _ _ _ _ :: _) _ _); rw [← HU1.out]; refine wpList_load_whole rfl 36 (.tmp 8) rfl w1.heap.size rfl #[.int .i64 v.k, .int .i64 v.n, .int .i64 v.x, .slice v.A v.m v.c] aggFr rfl _ HBU.out ?_)
      | (go_at_call 36; refine (greets_c HMU.out v.k v.n v.x v.A v.m v.c false HGD.out).mono ?_; rintro e w2 ⟨rfl, hb2⟩; have hM2 := HMU.out.below hb2; have b2 := HBU.out.below hb2 HBU.out.lt; have e20 : w2.cell? ⟨w1.heap.size, 0, none⟩ = some (.int .i64 v.k) := (by rw [b2.cell]; rfl); have e21 : w2.cell? ⟨w1.heap.size, 1, none⟩ = some (.int .i64 v.n) := (by rw [b2.cell]; rfl); have hz2 := hb2.size; have HM2 := Lib.hid hM2; have HB2 := Lib.hid b2; clear hM2 b2))
    have HBB := Lib.hid (hb1.trans ((hbu1.trans (hb2.mono hbu1.size)).mono hz1))
    have hbz := HBB.out.size
    go_loopw [9] (fun v9 wr => ∃ r : Nat, p ≤ r ∧ r ≤ jm ∧ v9 = .int .i64 (r : Int) ∧ Below w2.heap.size w2 wr) (fun v9 _ => (intOf v9).toNat)
    case atStart => exact ⟨jm, by omega, Nat.le_refl _, rfl, Below.refl _ _⟩
    case round =>
      obtain ⟨r, hpr, hrj, rfl, hw⟩ := hrel
      have hzw := hw.size
      have hr0 : (0 : Int) ≤ (r : Int) := by omega
      have hrN : (r : Int) < (N : Int) := by omega
      have hr3 : (r : Int) ≤ 300 := by omega
      have hMr := HM2.out.below hw
      obtain ⟨x, hx⟩ : ∃ x, cs[r]? = some x := ⟨cs[r]'(by rw [hMr.len]; omega), List.getElem?_eq_getElem _⟩
      obtain ⟨gb', off', hA, hgb', hok', hcell'⟩ := hMr.at_ hx
      simp only [Option.some.injEq, Addr.mk.injEq, and_true] at hA
      obtain ⟨rfl, rfl⟩ := hA
      have d4 : wr.cell? ⟨gm, 4, none⟩ = some (.slice (some ⟨gb, off, none⟩) N C) := by rw [hMr.blk.cell]; rfl
      have HCX := Lib.hid (cells4 hcell')
      have HLX := Lib.hid hok'.1.len
      have HDX := Lib.hid hok'.2.2
      have HCELL := Lib.hid hcell'
      have HMR := Lib.hid hMr
      have HW := Lib.hid hw
      have HX := Lib.hid hx
      clear hMr hcell' hok' hw hx
      by_cases hrp : r = p
      · subst hrp
        have hxu : x = u := by have := HX.out; rw [HPU.out] at this; cases this; rfl
        subst hxu
        have HGX := Lib.hid (show decide (x.k = 1 ∧ x.n = init ∧ 16 ≤ x.m ∧ x.m ≤ 64) = true by rw [← HLX.out]; exact decide_eq_true HGU.out)
        go_wp2_with (first
          | ((with_reducible show wpList _ _ _ (Oper.mk (some 52) (Op.load 36 _) _ _ _ _ :: _) _ _); refine wpList_load_agg rfl 36 (.tmp 51) rfl gb (off + r * 36) rfl #[.int .i64 x.k, .int .i64 x.n, .int .i64 x.x, .slice x.A x.m x.c] aggFr rfl HCX.out ?_)
          | (go_at_call 36; refine (greets_c HMR.out x.k x.n x.x x.A x.m x.c true HGX.out).mono ?_; rintro e w3 ⟨rfl, hb3⟩))
        have hb23 := HW.out.trans (hb3.mono hzw)
        have HM3 := Lib.hid (HMR.out.below hb3)
        have hz3 := hb3.size
        have HDR := Lib.hid ((dr_sl HCELL.out hgb' HDX.out).below hb3 |>.more hz3)
        obtain ⟨rr, hrr⟩ : ∃ y, y = ansOf (S.gr : Int) th x.dr := ⟨_, rfl⟩
        have HRL := Lib.hid (show rr.length = 32 by rw [hrr]; exact len_ansOf _ _ _)
        have HRR := Lib.hid hrr
        have B3 := Lib.hid (HB2.out.below hb23 HB2.out.lt)
        have H23 := Lib.hid (HBB.out.trans (hb23.mono hbz))
        clear hrr hb23
        obtain ⟨p, hpp⟩ : ∃ p, p = r := ⟨_, rfl⟩
        rw [← hpp]
        rw [← hpp] at HDR hr0 hrN
        clear hpp
        refine wp_norm ?_
        refine (wpIn_wide (n := 4)).1 ?_
        refine wpIn_region_rel free_wide rfl 19 (fun W W' => Below W.heap.size W W') (fun W => Below w3.heap.size w3 W)
          [Det (.pointer (some ⟨gm, 0, none⟩)), Det (.int .i64 iv), Det (.int .i64 (j : Int)), Det (.int .i64 (S.gr : Int)), Det (.pointer (some ⟨gm, 0, none⟩)), Det (.pointer (some ⟨gm, 0, none⟩)), Det (.pointer (some ⟨gm, 0, none⟩)), Det (.pointer (some ⟨gm, 2, none⟩)), Det (.slice At nt ct), Det (.pointer (some ⟨gm, 0, none⟩)), Det (.pointer (some ⟨gm, 0, none⟩)), Det (.pointer (some ⟨gm, 4, none⟩)), Det (.slice (some ⟨gb, off, none⟩) N C), Det (.int .i64 (p : Int)), Det (.pointer (some ⟨gb, off + p * 36, none⟩)), Det (.pointer (some ⟨gb, off + p * 36 + 4, none⟩)), Det (.slice (some ⟨gb, off + p * 36 + 4, none⟩) 32 32), Det (.agg (arr8 rr)), RelW w3.heap.size 34 (arr8 (z8' 32)), Any]
          [[], [], [(1, some 58)], [(0, some 57), (2, some 59)], [], [(4, some 61)], [(5, some 62)], [(6, some 63)], [(7, some 64)], [], [(9, some 66)], [(10, some 67)], [(11, some 68)], [], [(12, some 69), (13, some 70)], [(14, some 71)], [(15, some 72)], [(3, some 60), (8, some 65), (16, some 73)], [], [(18, some 10), (17, some 74)]]
          [[], [], [1], [0, 1, 2], [], [4], [4, 5], [4, 5, 6], [4, 5, 6, 7], [], [9], [9, 10], [9, 10, 11], [], [9, 10, 11, 12, 13], [9, 10, 11, 12, 13, 14], [9, 10, 11, 12, 13, 14, 15], [0, 1, 2, 3, 4, 5, 6, 7, 8, 9, 10, 11, 12, 13, 14, 15, 16], [], [0, 1, 2, 3, 4, 5, 6, 7, 8, 9, 10, 11, 12, 13, 14, 15, 16, 17, 18]]
          [(0, some 57), (1, some 58), (2, some 59), (3, some 60), (4, some 61), (5, some 62), (6, some 63), (7, some 64), (8, some 65), (9, some 66), (10, some 67), (11, some 68), (12, some 69), (13, some 70), (14, some 71), (15, some 72), (16, some 73), (17, some 74), (18, some 10), (19, none)] (by kernel_rfl) (by kernel_rfl) (by kernel_rfl) (fun W W' h1 h2 => h1.trans (h2.mono h1.size)) ((Below.refl _ _).drew) ?_ ?_ ?_
        · exact (AllMono.cons Det.later (AllMono.cons Det.later (AllMono.cons Det.later (AllMono.cons Det.later (AllMono.cons Det.later (AllMono.cons Det.later (AllMono.cons Det.later (AllMono.cons Det.later (AllMono.cons Det.later (AllMono.cons Det.later (AllMono.cons Det.later (AllMono.cons Det.later (AllMono.cons Det.later (AllMono.cons Det.later (AllMono.cons Det.later (AllMono.cons Det.later (AllMono.cons Det.later (AllMono.cons Det.later (AllMono.cons RelW.later (AllMono.cons Any.later AllMono.nil))))))))))))))))))))
        · refine AllOb.cons ?_ (AllOb.cons ?_ (AllOb.cons ?_ (AllOb.cons ?_ (AllOb.cons ?_ (AllOb.cons ?_ (AllOb.cons ?_ (AllOb.cons ?_ (AllOb.cons ?_ (AllOb.cons ?_ (AllOb.cons ?_ (AllOb.cons ?_ (AllOb.cons ?_ (AllOb.cons ?_ (AllOb.cons ?_ (AllOb.cons ?_ (AllOb.cons ?_ (AllOb.cons ?_ (AllOb.cons ?_ (AllOb.nil)))))))))))))))))))
          · intro uF W hC' hU aF hF
            have hC : Below w3.heap.size w3 W := hC'
            clear hC'
            simp only [puts] at hF
            subst hF
            go_wp2_with (fail)
            exact ⟨rfl, rfl, (Below.refl _ _), rfl⟩
          · intro uF W hC' hU aF hF
            have hC : Below w3.heap.size w3 W := hC'
            clear hC'
            simp only [puts] at hF
            subst hF
            go_wp2_with (fail)
            exact ⟨rfl, rfl, (Below.refl _ _), rfl⟩
          · intro uF W hC' hU aF hF
            have hC : Below w3.heap.size w3 W := hC'
            clear hC'
            have h58 : (Det (.int .i64 iv)) (uF 1) W := hU.1
            clear hU
            simp only [puts, Act.put, List.setIfInBounds_toArray, List.set_cons_zero, List.set_cons_succ] at hF
            generalize uF 1 = x58 at h58 hF
            obtain rfl : x58 = (.int .i64 iv) := h58
            subst hF
            go_wp2_with (fail)
            exact ⟨rfl, rfl, (Below.refl _ _), rfl⟩
          · intro uF W hC' hU aF hF
            have hC : Below w3.heap.size w3 W := hC'
            clear hC'
            have h57 : (Det (.pointer (some ⟨gm, 0, none⟩))) (uF 0) W := hU.1
            have h59 : (Det (.int .i64 (j : Int))) (uF 2) W := hU.2.1
            clear hU
            simp only [puts, Act.put, List.setIfInBounds_toArray, List.set_cons_zero, List.set_cons_succ] at hF
            generalize uF 0 = x57 at h57 hF
            generalize uF 2 = x59 at h59 hF
            obtain rfl : x57 = (.pointer (some ⟨gm, 0, none⟩)) := h57
            obtain rfl : x59 = (.int .i64 (j : Int)) := h59
            subst hF
            go_wp2_with ((go_at_call 27; refine (greeted_r (HM3.out.below hC) j (by omega)).mono ?_; rintro e W1 ⟨rfl, hb⟩; rw [← HS.out]))
            exact ⟨rfl, rfl, hb, rfl⟩
          · intro uF W hC' hU aF hF
            have hC : Below w3.heap.size w3 W := hC'
            clear hC'
            simp only [puts] at hF
            subst hF
            go_wp2_with (fail)
            exact ⟨rfl, rfl, (Below.refl _ _), rfl⟩
          · intro uF W hC' hU aF hF
            have hC : Below w3.heap.size w3 W := hC'
            clear hC'
            have h61 : (Det (.pointer (some ⟨gm, 0, none⟩))) (uF 4) W := hU.1
            clear hU
            simp only [puts, Act.put, List.setIfInBounds_toArray, List.set_cons_zero, List.set_cons_succ] at hF
            generalize uF 4 = x61 at h61 hF
            obtain rfl : x61 = (.pointer (some ⟨gm, 0, none⟩)) := h61
            subst hF
            go_wp2_with (fail)
            exact ⟨rfl, rfl, (Below.refl _ _), rfl⟩
          · intro uF W hC' hU aF hF
            have hC : Below w3.heap.size w3 W := hC'
            clear hC'
            have h62 : (Det (.pointer (some ⟨gm, 0, none⟩))) (uF 5) W := hU.1
            clear hU
            simp only [puts, Act.put, List.setIfInBounds_toArray, List.set_cons_zero, List.set_cons_succ] at hF
            generalize uF 5 = x62 at h62 hF
            obtain rfl : x62 = (.pointer (some ⟨gm, 0, none⟩)) := h62
            subst hF
            go_wp2_with (fail)
            exact ⟨rfl, rfl, (Below.refl _ _), rfl⟩
          · intro uF W hC' hU aF hF
            have hC : Below w3.heap.size w3 W := hC'
            clear hC'
            have h63 : (Det (.pointer (some ⟨gm, 0, none⟩))) (uF 6) W := hU.1
            clear hU
            simp only [puts, Act.put, List.setIfInBounds_toArray, List.set_cons_zero, List.set_cons_succ] at hF
            generalize uF 6 = x63 at h63 hF
            obtain rfl : x63 = (.pointer (some ⟨gm, 0, none⟩)) := h63
            subst hF
            go_wp2_with (fail)
            exact ⟨rfl, rfl, (Below.refl _ _), rfl⟩
          · intro uF W hC' hU aF hF
            have hC : Below w3.heap.size w3 W := hC'
            clear hC'
            have h64 : (Det (.pointer (some ⟨gm, 2, none⟩))) (uF 7) W := hU.1
            clear hU
            simp only [puts, Act.put, List.setIfInBounds_toArray, List.set_cons_zero, List.set_cons_succ] at hF
            generalize uF 7 = x64 at h64 hF
            obtain rfl : x64 = (.pointer (some ⟨gm, 2, none⟩)) := h64
            subst hF
            have d1 : W.cell? ⟨gm, 2, none⟩ = some (.slice At nt ct) := by rw [(HM3.out.below hC).blk.cell]; rfl
            go_wp2_with (fail)
            exact ⟨rfl, rfl, (Below.refl _ _), rfl⟩
          · intro uF W hC' hU aF hF
            have hC : Below w3.heap.size w3 W := hC'
            clear hC'
            simp only [puts] at hF
            subst hF
            go_wp2_with (fail)
            exact ⟨rfl, rfl, (Below.refl _ _), rfl⟩
          · intro uF W hC' hU aF hF
            have hC : Below w3.heap.size w3 W := hC'
            clear hC'
            have h66 : (Det (.pointer (some ⟨gm, 0, none⟩))) (uF 9) W := hU.1
            clear hU
            simp only [puts, Act.put, List.setIfInBounds_toArray, List.set_cons_zero, List.set_cons_succ] at hF
            generalize uF 9 = x66 at h66 hF
            obtain rfl : x66 = (.pointer (some ⟨gm, 0, none⟩)) := h66
            subst hF
            go_wp2_with (fail)
            exact ⟨rfl, rfl, (Below.refl _ _), rfl⟩
          · intro uF W hC' hU aF hF
            have hC : Below w3.heap.size w3 W := hC'
            clear hC'
            have h67 : (Det (.pointer (some ⟨gm, 0, none⟩))) (uF 10) W := hU.1
            clear hU
            simp only [puts, Act.put, List.setIfInBounds_toArray, List.set_cons_zero, List.set_cons_succ] at hF
            generalize uF 10 = x67 at h67 hF
            obtain rfl : x67 = (.pointer (some ⟨gm, 0, none⟩)) := h67
            subst hF
            go_wp2_with (fail)
            exact ⟨rfl, rfl, (Below.refl _ _), rfl⟩
          · intro uF W hC' hU aF hF
            have hC : Below w3.heap.size w3 W := hC'
            clear hC'
            have h68 : (Det (.pointer (some ⟨gm, 4, none⟩))) (uF 11) W := hU.1
            clear hU
            simp only [puts, Act.put, List.setIfInBounds_toArray, List.set_cons_zero, List.set_cons_succ] at hF
            generalize uF 11 = x68 at h68 hF
            obtain rfl : x68 = (.pointer (some ⟨gm, 4, none⟩)) := h68
            subst hF
            have d1 : W.cell? ⟨gm, 4, none⟩ = some (.slice (some ⟨gb, off, none⟩) N C) := by rw [(HM3.out.below hC).blk.cell]; rfl
            go_wp2_with (fail)
            exact ⟨rfl, rfl, (Below.refl _ _), rfl⟩
          · intro uF W hC' hU aF hF
            have hC : Below w3.heap.size w3 W := hC'
            clear hC'
            simp only [puts] at hF
            subst hF
            go_wp2_with (fail)
            exact ⟨rfl, rfl, (Below.refl _ _), rfl⟩
          · intro uF W hC' hU aF hF
            have hC : Below w3.heap.size w3 W := hC'
            clear hC'
            have h69 : (Det (.slice (some ⟨gb, off, none⟩) N C)) (uF 12) W := hU.1
            have h70 : (Det (.int .i64 (p : Int))) (uF 13) W := hU.2.1
            clear hU
            simp only [puts, Act.put, List.setIfInBounds_toArray, List.set_cons_zero, List.set_cons_succ] at hF
            generalize uF 12 = x69 at h69 hF
            generalize uF 13 = x70 at h70 hF
            obtain rfl : x69 = (.slice (some ⟨gb, off, none⟩) N C) := h69
            obtain rfl : x70 = (.int .i64 (p : Int)) := h70
            subst hF
            go_wp2_with (fail)
            exact ⟨rfl, rfl, (Below.refl _ _), rfl⟩
          · intro uF W hC' hU aF hF
            have hC : Below w3.heap.size w3 W := hC'
            clear hC'
            have h71 : (Det (.pointer (some ⟨gb, off + p * 36, none⟩))) (uF 14) W := hU.1
            clear hU
            simp only [puts, Act.put, List.setIfInBounds_toArray, List.set_cons_zero, List.set_cons_succ] at hF
            generalize uF 14 = x71 at h71 hF
            obtain rfl : x71 = (.pointer (some ⟨gb, off + p * 36, none⟩)) := h71
            subst hF
            go_wp2_with (fail)
            exact ⟨rfl, rfl, (Below.refl _ _), rfl⟩
          · intro uF W hC' hU aF hF
            have hC : Below w3.heap.size w3 W := hC'
            clear hC'
            have h72 : (Det (.pointer (some ⟨gb, off + p * 36 + 4, none⟩))) (uF 15) W := hU.1
            clear hU
            simp only [puts, Act.put, List.setIfInBounds_toArray, List.set_cons_zero, List.set_cons_succ] at hF
            generalize uF 15 = x72 at h72 hF
            obtain rfl : x72 = (.pointer (some ⟨gb, off + p * 36 + 4, none⟩)) := h72
            subst hF
            have hto := arr_off_run (P := Try.prog) (T := 34) Try.underlying34 size1 (by omega) gb (off + p * 36 + 4)
            go_wp2_with (fail)
            exact ⟨rfl, rfl, (Below.refl _ _), rfl⟩
          · intro uF W hC' hU aF hF
            have hC : Below w3.heap.size w3 W := hC'
            clear hC'
            have h60 : (Det (.int .i64 (S.gr : Int))) (uF 3) W := hU.1
            have h65 : (Det (.slice At nt ct)) (uF 8) W := hU.2.1
            have h73 : (Det (.slice (some ⟨gb, off + p * 36 + 4, none⟩) 32 32)) (uF 16) W := hU.2.2.1
            clear hU
            simp only [puts, Act.put, List.setIfInBounds_toArray, List.set_cons_zero, List.set_cons_succ] at hF
            generalize uF 3 = x60 at h60 hF
            generalize uF 8 = x65 at h65 hF
            generalize uF 16 = x73 at h73 hF
            obtain rfl : x60 = (.int .i64 (S.gr : Int)) := h60
            obtain rfl : x65 = (.slice At nt ct) := h65
            obtain rfl : x73 = (.slice (some ⟨gb, off + p * 36 + 4, none⟩) 32 32) := h73
            subst hF
            go_wp2_with ((go_at_call 17; refine (refanswer_c (S.gr : Int) (HM3.out.below hC).th_ ((HDR.out.below hC).more hC.size) (Nat.le_refl _) (by omega) (by omega)).mono ?_; rintro e W1 ⟨rfl, hb⟩; rw [← HRR.out]))
            exact ⟨rfl, rfl, hb, rfl⟩
          · intro uF W hC' hU aF hF
            have hC : Below w3.heap.size w3 W := hC'
            clear hC'
            simp only [puts] at hF
            subst hF
            go_wp2_with (((with_reducible show wpList _ _ _ (Oper.mk (some 10) (Op.alloc _) _ _ _ _ :: _) _ _); refine wpList_alloc_agg (by rfl) 34 rfl (arr8 (z8' 32)) zero44 ?_))
            exact ⟨rfl, rfl, (below_alloc _ _), ⟨_, rfl, hC.size, Blk.new _ _ _⟩⟩
        intro uF W4 hC' hU aF hF
        have hCW4 : Below w3.heap.size w3 W4 := hC'
        clear hC'
        have h74 : (Det (.agg (arr8 rr))) (uF 17) W4 := hU.2.2.2.2.2.2.2.2.2.2.2.2.2.2.2.2.2.1
        have h10 : (RelW w3.heap.size 34 (arr8 (z8' 32))) (uF 18) W4 := hU.2.2.2.2.2.2.2.2.2.2.2.2.2.2.2.2.2.2.1
        clear hU
        simp only [List.take_succ_cons, List.take_zero, puts, Act.put, List.setIfInBounds_toArray, List.set_cons_zero, List.set_cons_succ] at hF
        generalize uF 0 = x57 at hF
        generalize uF 1 = x58 at hF
        generalize uF 2 = x59 at hF
        generalize uF 3 = x60 at hF
        generalize uF 4 = x61 at hF
        generalize uF 5 = x62 at hF
        generalize uF 6 = x63 at hF
        generalize uF 7 = x64 at hF
        generalize uF 8 = x65 at hF
        generalize uF 9 = x66 at hF
        generalize uF 10 = x67 at hF
        generalize uF 11 = x68 at hF
        generalize uF 12 = x69 at hF
        generalize uF 13 = x70 at hF
        generalize uF 14 = x71 at hF
        generalize uF 15 = x72 at hF
        generalize uF 16 = x73 at hF
        generalize uF 17 = x74 at h74 hF
        generalize uF 18 = x10 at h10 hF
        obtain rfl : x74 = (.agg (arr8 rr)) := h74
        obtain ⟨g10, rfl, z10, b10⟩ := h10
        subst hF
        simp only [List.drop_succ_cons, List.drop_zero]
        refine wpListIn_of free_wide (fun ⟨_, _, h⟩ => h) rfl ?_
        refine wpList_store8 rfl 34 (.tmp 10) (.tmp 74) rfl g10 rfl rr rfl agg44 HRL.out _ _ b10 (by rw [size_arr8, len_z8']) ?_
        intro w5 b5 q5 s5
        simp only [Act.put, List.setIfInBounds_toArray, List.set_cons_succ, List.set_cons_zero]
        refine wpList_nil ?_
        dsimp only [Exit.then]
        have hb35 : Below w3.heap.size w3 w5 := hCW4.grown q5 hCW4.size (fun k hk => by cases hk; exact z10)
        have hz35 := hb35.size
        have B10 := Lib.hid b5
        have B5 := Lib.hid (B3.out.below hb35 B3.out.lt)
        have HMD5 := Lib.hid (((HM3.out.oks v (List.mem_of_getElem? HV.out)).1.below hb35).more hz35)
        have H25 := Lib.hid (H23.out.trans (hb35.mono H23.out.size))
        clear q5 s5 b5 b10
        rcases HRES.out with ⟨hres, rfl⟩ | ⟨hres, rfl⟩
        · have HNE := Lib.hid (show rr = v.ds by rw [HRR.out, ← HCH.out]; exact hres)
          have hs : rr = v.ds := HNE.out
          subst hs
          go_wp2_with fail
          refine wp_region_rel (fun W W' => Below W.heap.size W W') (fun W => Below w5.heap.size w5 W)
            [Det (.slice (some ⟨g10, 0, none⟩) 32 32), Det (.string ⟨v.ds.toArray⟩), Det (.pointer (some ⟨w1.heap.size, 3, none⟩)), Det (.slice v.A v.m v.c), Det (.string ⟨v.ds.toArray⟩), Det (.bool true)]
            [[], [(0, some 75)], [], [(2, some 77)], [(3, some 78)], [(1, some 76), (4, some 79)]]
            [[], [0], [], [2], [2, 3], [0, 1, 2, 3, 4]]
            [(0, some 75), (1, some 76), (2, some 77), (3, some 78), (4, some 79), (5, some 80)] (by kernel_rfl) (by kernel_rfl) (fun W W' h1 h2 => h1.trans (h2.mono h1.size)) ((Below.refl _ _).drew) ?_ ?_ ?_
          · exact (AllMono.cons Det.later (AllMono.cons Det.later (AllMono.cons Det.later (AllMono.cons Det.later (AllMono.cons Det.later (AllMono.cons Det.later AllMono.nil))))))
          · refine AllOb.cons ?_ (AllOb.cons ?_ (AllOb.cons ?_ (AllOb.cons ?_ (AllOb.cons ?_ (AllOb.cons ?_ (AllOb.nil))))))
            · intro uF W hC' hU aF hF
              have hC : Below w5.heap.size w5 W := hC'
              clear hC'
              simp only [puts] at hF
              subst hF
              have hto := arr_off_run (P := Try.prog) (T := 34) Try.underlying34 size1 (by omega) g10 0
              go_wp2_with (fail)
              exact ⟨rfl, rfl, (Below.refl _ _), rfl⟩
            · intro uF W hC' hU aF hF
              have hC : Below w5.heap.size w5 W := hC'
              clear hC'
              have h75 : (Det (.slice (some ⟨g10, 0, none⟩) 32 32)) (uF 0) W := hU.1
              clear hU
              simp only [puts, Act.put, List.setIfInBounds_toArray, List.set_cons_zero, List.set_cons_succ] at hF
              generalize uF 0 = x75 at h75 hF
              obtain rfl : x75 = (.slice (some ⟨g10, 0, none⟩) 32 32) := h75
              subst hF
              have hcv := ((sum_sl B10.out HRL.out).below hC).str
              go_wp2_with (fail)
              exact ⟨rfl, rfl, (Below.refl _ _), rfl⟩
            · intro uF W hC' hU aF hF
              have hC : Below w5.heap.size w5 W := hC'
              clear hC'
              simp only [puts] at hF
              subst hF
              go_wp2_with (fail)
              exact ⟨rfl, rfl, (Below.refl _ _), rfl⟩
            · intro uF W hC' hU aF hF
              have hC : Below w5.heap.size w5 W := hC'
              clear hC'
              have h77 : (Det (.pointer (some ⟨w1.heap.size, 3, none⟩))) (uF 2) W := hU.1
              clear hU
              simp only [puts, Act.put, List.setIfInBounds_toArray, List.set_cons_zero, List.set_cons_succ] at hF
              generalize uF 2 = x77 at h77 hF
              obtain rfl : x77 = (.pointer (some ⟨w1.heap.size, 3, none⟩)) := h77
              subst hF
              have d1 : W.cell? ⟨w1.heap.size, 3, none⟩ = some (.slice v.A v.m v.c) := by rw [(B5.out.below hC B5.out.lt).cell]; rfl
              go_wp2_with (fail)
              exact ⟨rfl, rfl, (Below.refl _ _), rfl⟩
            · intro uF W hC' hU aF hF
              have hC : Below w5.heap.size w5 W := hC'
              clear hC'
              have h78 : (Det (.slice v.A v.m v.c)) (uF 3) W := hU.1
              clear hU
              simp only [puts, Act.put, List.setIfInBounds_toArray, List.set_cons_zero, List.set_cons_succ] at hF
              generalize uF 3 = x78 at h78 hF
              obtain rfl : x78 = (.slice v.A v.m v.c) := h78
              subst hF
              have hcv := ((HMD5.out.below hC)).str
              go_wp2_with (fail)
              exact ⟨rfl, rfl, (Below.refl _ _), rfl⟩
            · intro uF W hC' hU aF hF
              have hC : Below w5.heap.size w5 W := hC'
              clear hC'
              have h76 : (Det (.string ⟨v.ds.toArray⟩)) (uF 1) W := hU.1
              have h79 : (Det (.string ⟨v.ds.toArray⟩)) (uF 4) W := hU.2.1
              clear hU
              simp only [puts, Act.put, List.setIfInBounds_toArray, List.set_cons_zero, List.set_cons_succ] at hF
              generalize uF 1 = x76 at h76 hF
              generalize uF 4 = x79 at h79 hF
              obtain rfl : x76 = (.string ⟨v.ds.toArray⟩) := h76
              obtain rfl : x79 = (.string ⟨v.ds.toArray⟩) := h79
              subst hF
              have hne := HNE.out
              go_wp2_with (fail)
              exact ⟨rfl, rfl, (Below.refl _ _), rfl⟩
          intro uF W6 hC' hU aF hF
          have hCW6 : Below w5.heap.size w5 W6 := hC'
          clear hC'
          have h80 : (Det (.bool true)) (uF 5) W6 := hU.2.2.2.2.2.1
          clear hU
          simp only [puts, Act.put, List.setIfInBounds_toArray, List.set_cons_zero, List.set_cons_succ] at hF
          generalize uF 0 = x75 at hF
          generalize uF 1 = x76 at hF
          generalize uF 2 = x77 at hF
          generalize uF 3 = x78 at hF
          generalize uF 4 = x79 at hF
          generalize uF 5 = x80 at h80 hF
          obtain rfl : x80 = (.bool true) := h80
          subst hF
          go_wp2_with fail
          refine bodyPost_ret (results_tmp2 rfl _ _ _) rfl ?_
          exact ⟨rfl, H25.out.trans (hCW6.mono H25.out.size)⟩
        · have HNE := Lib.hid (show (rr == v.ds) = false by
            rw [beq_eq_false_iff_ne]
            exact fun e2 => hres (by rw [HCH.out, ← HRR.out]; exact e2))
          go_wp2_with fail
          refine wp_region_rel (fun W W' => Below W.heap.size W W') (fun W => Below w5.heap.size w5 W)
            [Det (.slice (some ⟨g10, 0, none⟩) 32 32), Det (.string ⟨rr.toArray⟩), Det (.pointer (some ⟨w1.heap.size, 3, none⟩)), Det (.slice v.A v.m v.c), Det (.string ⟨v.ds.toArray⟩), Det (.bool false)]
            [[], [(0, some 75)], [], [(2, some 77)], [(3, some 78)], [(1, some 76), (4, some 79)]]
            [[], [0], [], [2], [2, 3], [0, 1, 2, 3, 4]]
            [(0, some 75), (1, some 76), (2, some 77), (3, some 78), (4, some 79), (5, some 80)] (by kernel_rfl) (by kernel_rfl) (fun W W' h1 h2 => h1.trans (h2.mono h1.size)) ((Below.refl _ _).drew) ?_ ?_ ?_
          · exact (AllMono.cons Det.later (AllMono.cons Det.later (AllMono.cons Det.later (AllMono.cons Det.later (AllMono.cons Det.later (AllMono.cons Det.later AllMono.nil))))))
          · refine AllOb.cons ?_ (AllOb.cons ?_ (AllOb.cons ?_ (AllOb.cons ?_ (AllOb.cons ?_ (AllOb.cons ?_ (AllOb.nil))))))
            · intro uF W hC' hU aF hF
              have hC : Below w5.heap.size w5 W := hC'
              clear hC'
              simp only [puts] at hF
              subst hF
              have hto := arr_off_run (P := Try.prog) (T := 34) Try.underlying34 size1 (by omega) g10 0
              go_wp2_with (fail)
              exact ⟨rfl, rfl, (Below.refl _ _), rfl⟩
            · intro uF W hC' hU aF hF
              have hC : Below w5.heap.size w5 W := hC'
              clear hC'
              have h75 : (Det (.slice (some ⟨g10, 0, none⟩) 32 32)) (uF 0) W := hU.1
              clear hU
              simp only [puts, Act.put, List.setIfInBounds_toArray, List.set_cons_zero, List.set_cons_succ] at hF
              generalize uF 0 = x75 at h75 hF
              obtain rfl : x75 = (.slice (some ⟨g10, 0, none⟩) 32 32) := h75
              subst hF
              have hcv := ((sum_sl B10.out HRL.out).below hC).str
              go_wp2_with (fail)
              exact ⟨rfl, rfl, (Below.refl _ _), rfl⟩
            · intro uF W hC' hU aF hF
              have hC : Below w5.heap.size w5 W := hC'
              clear hC'
              simp only [puts] at hF
              subst hF
              go_wp2_with (fail)
              exact ⟨rfl, rfl, (Below.refl _ _), rfl⟩
            · intro uF W hC' hU aF hF
              have hC : Below w5.heap.size w5 W := hC'
              clear hC'
              have h77 : (Det (.pointer (some ⟨w1.heap.size, 3, none⟩))) (uF 2) W := hU.1
              clear hU
              simp only [puts, Act.put, List.setIfInBounds_toArray, List.set_cons_zero, List.set_cons_succ] at hF
              generalize uF 2 = x77 at h77 hF
              obtain rfl : x77 = (.pointer (some ⟨w1.heap.size, 3, none⟩)) := h77
              subst hF
              have d1 : W.cell? ⟨w1.heap.size, 3, none⟩ = some (.slice v.A v.m v.c) := by rw [(B5.out.below hC B5.out.lt).cell]; rfl
              go_wp2_with (fail)
              exact ⟨rfl, rfl, (Below.refl _ _), rfl⟩
            · intro uF W hC' hU aF hF
              have hC : Below w5.heap.size w5 W := hC'
              clear hC'
              have h78 : (Det (.slice v.A v.m v.c)) (uF 3) W := hU.1
              clear hU
              simp only [puts, Act.put, List.setIfInBounds_toArray, List.set_cons_zero, List.set_cons_succ] at hF
              generalize uF 3 = x78 at h78 hF
              obtain rfl : x78 = (.slice v.A v.m v.c) := h78
              subst hF
              have hcv := ((HMD5.out.below hC)).str
              go_wp2_with (fail)
              exact ⟨rfl, rfl, (Below.refl _ _), rfl⟩
            · intro uF W hC' hU aF hF
              have hC : Below w5.heap.size w5 W := hC'
              clear hC'
              have h76 : (Det (.string ⟨rr.toArray⟩)) (uF 1) W := hU.1
              have h79 : (Det (.string ⟨v.ds.toArray⟩)) (uF 4) W := hU.2.1
              clear hU
              simp only [puts, Act.put, List.setIfInBounds_toArray, List.set_cons_zero, List.set_cons_succ] at hF
              generalize uF 1 = x76 at h76 hF
              generalize uF 4 = x79 at h79 hF
              obtain rfl : x76 = (.string ⟨rr.toArray⟩) := h76
              obtain rfl : x79 = (.string ⟨v.ds.toArray⟩) := h79
              subst hF
              have hne := HNE.out
              go_wp2_with (fail)
              exact ⟨rfl, rfl, (Below.refl _ _), rfl⟩
          intro uF W6 hC' hU aF hF
          have hCW6 : Below w5.heap.size w5 W6 := hC'
          clear hC'
          have h80 : (Det (.bool false)) (uF 5) W6 := hU.2.2.2.2.2.1
          clear hU
          simp only [puts, Act.put, List.setIfInBounds_toArray, List.set_cons_zero, List.set_cons_succ] at hF
          generalize uF 0 = x75 at hF
          generalize uF 1 = x76 at hF
          generalize uF 2 = x77 at hF
          generalize uF 3 = x78 at hF
          generalize uF 4 = x79 at hF
          generalize uF 5 = x80 at h80 hF
          obtain rfl : x80 = (.bool false) := h80
          subst hF
          go_wp2_with fail
          refine bodyPost_ret (results_tmp2 rfl _ _ _) rfl ?_
          exact ⟨rfl, H25.out.trans (hCW6.mono H25.out.size)⟩
      · have HGX := Lib.hid (show decide (x.k = 1 ∧ x.n = init ∧ 16 ≤ x.m ∧ x.m ≤ 64) = false by rw [← HLX.out]; exact decide_eq_false (HMIN.out r x (by omega) (by omega) HX.out))
        obtain ⟨rm, rfl⟩ : ∃ rm, r = rm + 1 := ⟨r - 1, by omega⟩
        have hrm : (((rm + 1 : Nat)) : Int) - 1 = (rm : Int) := by omega
        go_wp2_with (first
          | ((with_reducible show wpList _ _ _ (Oper.mk (some 52) (Op.load 36 _) _ _ _ _ :: _) _ _); refine wpList_load_agg rfl 36 (.tmp 51) rfl gb (off + (rm + 1) * 36) rfl #[.int .i64 x.k, .int .i64 x.n, .int .i64 x.x, .slice x.A x.m x.c] aggFr rfl HCX.out ?_)
          | (go_at_call 36; refine (greets_c HMR.out x.k x.n x.x x.A x.m x.c false HGX.out).mono ?_; rintro e w3 ⟨rfl, hb3⟩))
        exact ⟨⟨rm, by omega, by omega, by go_num, HW.out.trans (hb3.mono hzw)⟩, by simp [intOf]⟩
  · clear hnG
    have q8 : (v.k == 8) = true := by simp [hk]
    clear hk
    go_wp2_with (first
      | (go_at_call 26; refine (HIH.out w (Below.refl _ _)).mono ?_; rintro e w1 ⟨rfl, hb1⟩; have hM1 := HM.out.below hb1; have hz1 := hb1.size; obtain ⟨gb, off, hA, hgb, hok, hcell⟩ := hM1.at_ HV.out; subst hA; have d14 : w1.cell? ⟨gm, 1 + 3, none⟩ = some (.slice (some ⟨gb, off, none⟩) N C) := (by rw [hM1.blk.cell]; rfl); have HC := Lib.hid (cells4 hcell); obtain ⟨u1, hu1⟩ : ∃ u, u = w1.alloc (.cells #[.int .i64 v.k, .int .i64 v.n, .int .i64 v.x, .slice v.A v.m v.c] 36) := ⟨_, rfl⟩; have hbu1 : Below w1.heap.size w1 u1 := (by rw [hu1]; exact below_alloc _ _); have bu1 : Blk u1 w1.heap.size 36 #[.int .i64 v.k, .int .i64 v.n, .int .i64 v.x, .slice v.A v.m v.c] := (by rw [hu1]; exact Blk.new _ _ _); have HMU := Lib.hid (hM1.below hbu1); have HU1 := Lib.hid hu1; have HBU := Lib.hid bu1; clear hM1 hcell hok hu1 bu1)
      | ((with_reducible show wpList _ _ _ (Oper.mk (some 28) (Op.load 36 _) _ _ _ _ :: _) _ _); refine wpList_load_agg rfl 36 (.tmp 27) rfl gb (off + j * 36) rfl #[.int .i64 v.k, .int .i64 v.n, .int .i64 v.x, .slice v.A v.m v.c] aggFr rfl HC.out ?_)
      | ((with_reducible show wpList _ _ _ (Oper.mk (some 30) (Op.load 36 _) _ _ _ _ :: _) _ _); rw [← HU1.out]; refine wpList_load_whole rfl 36 (.tmp 8) rfl w1.heap.size rfl #[.int .i64 v.k, .int .i64 v.n, .int .i64 v.x, .slice v.A v.m v.c] aggFr rfl _ HBU.out ?_)
      | (go_at_call 36; refine (greets_c HMU.out v.k v.n v.x v.A v.m v.c false HGD.out).mono ?_; rintro e w2 ⟨rfl, hb2⟩; have hM2 := HMU.out.below hb2; have b2 := HBU.out.below hb2 HBU.out.lt; have e20 : w2.cell? ⟨w1.heap.size, 0, none⟩ = some (.int .i64 v.k) := (by rw [b2.cell]; rfl); have e21 : w2.cell? ⟨w1.heap.size, 1, none⟩ = some (.int .i64 v.n) := (by rw [b2.cell]; rfl); have hz2 := hb2.size; have HM2 := Lib.hid hM2; have HB2 := Lib.hid b2; clear hM2 b2))
    refine bodyPost_ret (results_tmp2 rfl _ _ _) rfl ?_
    exact ⟨rfl, hb1.trans ((hbu1.trans (hb2.mono hbu1.size)).mono hz1)⟩
  · clear hnG
    have q3 : (v.k == 3) = false := by simp [hk]
    have q5 : (v.k == 5) = true := by simp [hk]
    have q8 : (v.k == 8) = false := by simp [hk]
    have s2 : (S.st == 2) = true := by simp [hst]
    obtain ⟨z, hz⟩ : ∃ z, z = nxr S := ⟨_, rfl⟩
    have hzz : z = S.nx := by rw [hz, nxr, if_pos hst]
    have hqn : (v.n == z) = true := by simp [hzz, hn]
    rw [← hz] at HIH
    have hz0 : 0 ≤ z := by have := HNXB.out; omega
    have hz3 : z ≤ 300 := by have := HNXB.out; omega
    have HZ := Lib.hid hzz
    clear hzz hz hk hst hn
    go_wp2_with (first
      | (go_at_call 26; refine (HIH.out w (Below.refl _ _)).mono ?_; rintro e w1 ⟨rfl, hb1⟩; have hM1 := HM.out.below hb1; have hz1 := hb1.size; obtain ⟨gb, off, hA, hgb, hok, hcell⟩ := hM1.at_ HV.out; subst hA; have d14 : w1.cell? ⟨gm, 1 + 3, none⟩ = some (.slice (some ⟨gb, off, none⟩) N C) := (by rw [hM1.blk.cell]; rfl); have HC := Lib.hid (cells4 hcell); obtain ⟨u1, hu1⟩ : ∃ u, u = w1.alloc (.cells #[.int .i64 v.k, .int .i64 v.n, .int .i64 v.x, .slice v.A v.m v.c] 36) := ⟨_, rfl⟩; have hbu1 : Below w1.heap.size w1 u1 := (by rw [hu1]; exact below_alloc _ _); have bu1 : Blk u1 w1.heap.size 36 #[.int .i64 v.k, .int .i64 v.n, .int .i64 v.x, .slice v.A v.m v.c] := (by rw [hu1]; exact Blk.new _ _ _); have HMU := Lib.hid (hM1.below hbu1); have HU1 := Lib.hid hu1; have HBU := Lib.hid bu1; clear hM1 hcell hok hu1 bu1)
      | ((with_reducible show wpList _ _ _ (Oper.mk (some 28) (Op.load 36 _) _ _ _ _ :: _) _ _); refine wpList_load_agg rfl 36 (.tmp 27) rfl gb (off + j * 36) rfl #[.int .i64 v.k, .int .i64 v.n, .int .i64 v.x, .slice v.A v.m v.c] aggFr rfl HC.out ?_)
      | ((with_reducible show wpList _ _ _ (Oper.mk (some 30) (Op.load 36 _) _ _ _ _ :: _) _ _); rw [← HU1.out]; refine wpList_load_whole rfl 36 (.tmp 8) rfl w1.heap.size rfl #[.int .i64 v.k, .int .i64 v.n, .int .i64 v.x, .slice v.A v.m v.c] aggFr rfl _ HBU.out ?_)
      | (go_at_call 36; refine (greets_c HMU.out v.k v.n v.x v.A v.m v.c false HGD.out).mono ?_; rintro e w2 ⟨rfl, hb2⟩; have hM2 := HMU.out.below hb2; have b2 := HBU.out.below hb2 HBU.out.lt; have e20 : w2.cell? ⟨w1.heap.size, 0, none⟩ = some (.int .i64 v.k) := (by rw [b2.cell]; rfl); have e21 : w2.cell? ⟨w1.heap.size, 1, none⟩ = some (.int .i64 v.n) := (by rw [b2.cell]; rfl); have hz2 := hb2.size; have HM2 := Lib.hid hM2; have HB2 := Lib.hid b2; clear hM2 b2))
    refine bodyPost_ret (results_tmp2 rfl _ _ _) rfl ?_
    exact ⟨by rw [nxr, if_pos rfl, ← HZ.out]; rfl, hb1.trans ((hbu1.trans (hb2.mono hbu1.size)).mono hz1)⟩
  · clear hnG
    by_cases hk : v.k = 3
    · skip
      have q3 : (v.k == 3) = true := by simp [hk]
      have q5 : (v.k == 5) = false := by simp [hk]
      have q8 : (v.k == 8) = false := by simp [hk]
      have s1' : (s1.st == 1) = false := by simpa using hn3 hk
      obtain ⟨z, hz⟩ : ∃ z, z = nxr s1 := ⟨_, rfl⟩
      rw [← hz] at HIH ⊢
      clear hz hn8 hn3 hn5 hk
      go_wp2_with (first
        | (go_at_call 26; refine (HIH.out w (Below.refl _ _)).mono ?_; rintro e w1 ⟨rfl, hb1⟩; have hM1 := HM.out.below hb1; have hz1 := hb1.size; obtain ⟨gb, off, hA, hgb, hok, hcell⟩ := hM1.at_ HV.out; subst hA; have d14 : w1.cell? ⟨gm, 1 + 3, none⟩ = some (.slice (some ⟨gb, off, none⟩) N C) := (by rw [hM1.blk.cell]; rfl); have HC := Lib.hid (cells4 hcell); obtain ⟨u1, hu1⟩ : ∃ u, u = w1.alloc (.cells #[.int .i64 v.k, .int .i64 v.n, .int .i64 v.x, .slice v.A v.m v.c] 36) := ⟨_, rfl⟩; have hbu1 : Below w1.heap.size w1 u1 := (by rw [hu1]; exact below_alloc _ _); have bu1 : Blk u1 w1.heap.size 36 #[.int .i64 v.k, .int .i64 v.n, .int .i64 v.x, .slice v.A v.m v.c] := (by rw [hu1]; exact Blk.new _ _ _); have HMU := Lib.hid (hM1.below hbu1); have HU1 := Lib.hid hu1; have HBU := Lib.hid bu1; clear hM1 hcell hok hu1 bu1)
        | ((with_reducible show wpList _ _ _ (Oper.mk (some 28) (Op.load 36 _) _ _ _ _ :: _) _ _); refine wpList_load_agg rfl 36 (.tmp 27) rfl gb (off + j * 36) rfl #[.int .i64 v.k, .int .i64 v.n, .int .i64 v.x, .slice v.A v.m v.c] aggFr rfl HC.out ?_)
        | ((with_reducible show wpList _ _ _ (Oper.mk (some 30) (Op.load 36 _) _ _ _ _ :: _) _ _); rw [← HU1.out]; refine wpList_load_whole rfl 36 (.tmp 8) rfl w1.heap.size rfl #[.int .i64 v.k, .int .i64 v.n, .int .i64 v.x, .slice v.A v.m v.c] aggFr rfl _ HBU.out ?_)
        | (go_at_call 36; refine (greets_c HMU.out v.k v.n v.x v.A v.m v.c false HGD.out).mono ?_; rintro e w2 ⟨rfl, hb2⟩; have hM2 := HMU.out.below hb2; have b2 := HBU.out.below hb2 HBU.out.lt; have e20 : w2.cell? ⟨w1.heap.size, 0, none⟩ = some (.int .i64 v.k) := (by rw [b2.cell]; rfl); have e21 : w2.cell? ⟨w1.heap.size, 1, none⟩ = some (.int .i64 v.n) := (by rw [b2.cell]; rfl); have hz2 := hb2.size; have HM2 := Lib.hid hM2; have HB2 := Lib.hid b2; clear hM2 b2))
      refine bodyPost_ret (results_tmp2 rfl _ _ _) rfl ?_
      exact ⟨rfl, hb1.trans ((hbu1.trans (hb2.mono hbu1.size)).mono hz1)⟩
    by_cases hk5 : v.k = 5
    · have hk := hk5
      by_cases h2 : s1.st = 2
      · have s2 : (s1.st == 2) = true := by simp [h2]
        have q3 : (v.k == 3) = false := by simp [hk]
        have q5 : (v.k == 5) = true := by simp [hk]
        have q8 : (v.k == 8) = false := by simp [hk]
        obtain ⟨z, hz⟩ : ∃ z, z = nxr s1 := ⟨_, rfl⟩
        rw [← hz] at HIH ⊢
        have hqn : (v.n == z) = false := by rw [hz, nxr, if_pos h2]; simpa using hn5 hk h2
        clear hz hn8 hn3 hn5 hk hk5 h2
        go_wp2_with (first
          | (go_at_call 26; refine (HIH.out w (Below.refl _ _)).mono ?_; rintro e w1 ⟨rfl, hb1⟩; have hM1 := HM.out.below hb1; have hz1 := hb1.size; obtain ⟨gb, off, hA, hgb, hok, hcell⟩ := hM1.at_ HV.out; subst hA; have d14 : w1.cell? ⟨gm, 1 + 3, none⟩ = some (.slice (some ⟨gb, off, none⟩) N C) := (by rw [hM1.blk.cell]; rfl); have HC := Lib.hid (cells4 hcell); obtain ⟨u1, hu1⟩ : ∃ u, u = w1.alloc (.cells #[.int .i64 v.k, .int .i64 v.n, .int .i64 v.x, .slice v.A v.m v.c] 36) := ⟨_, rfl⟩; have hbu1 : Below w1.heap.size w1 u1 := (by rw [hu1]; exact below_alloc _ _); have bu1 : Blk u1 w1.heap.size 36 #[.int .i64 v.k, .int .i64 v.n, .int .i64 v.x, .slice v.A v.m v.c] := (by rw [hu1]; exact Blk.new _ _ _); have HMU := Lib.hid (hM1.below hbu1); have HU1 := Lib.hid hu1; have HBU := Lib.hid bu1; clear hM1 hcell hok hu1 bu1)
          | ((with_reducible show wpList _ _ _ (Oper.mk (some 28) (Op.load 36 _) _ _ _ _ :: _) _ _); refine wpList_load_agg rfl 36 (.tmp 27) rfl gb (off + j * 36) rfl #[.int .i64 v.k, .int .i64 v.n, .int .i64 v.x, .slice v.A v.m v.c] aggFr rfl HC.out ?_)
          | ((with_reducible show wpList _ _ _ (Oper.mk (some 30) (Op.load 36 _) _ _ _ _ :: _) _ _); rw [← HU1.out]; refine wpList_load_whole rfl 36 (.tmp 8) rfl w1.heap.size rfl #[.int .i64 v.k, .int .i64 v.n, .int .i64 v.x, .slice v.A v.m v.c] aggFr rfl _ HBU.out ?_)
          | (go_at_call 36; refine (greets_c HMU.out v.k v.n v.x v.A v.m v.c false HGD.out).mono ?_; rintro e w2 ⟨rfl, hb2⟩; have hM2 := HMU.out.below hb2; have b2 := HBU.out.below hb2 HBU.out.lt; have e20 : w2.cell? ⟨w1.heap.size, 0, none⟩ = some (.int .i64 v.k) := (by rw [b2.cell]; rfl); have e21 : w2.cell? ⟨w1.heap.size, 1, none⟩ = some (.int .i64 v.n) := (by rw [b2.cell]; rfl); have hz2 := hb2.size; have HM2 := Lib.hid hM2; have HB2 := Lib.hid b2; clear hM2 b2))
        refine bodyPost_ret (results_tmp2 rfl _ _ _) rfl ?_
        exact ⟨rfl, hb1.trans ((hbu1.trans (hb2.mono hbu1.size)).mono hz1)⟩
      · have s2 : (s1.st == 2) = false := by simp [h2]
        have q3 : (v.k == 3) = false := by simp [hk]
        have q5 : (v.k == 5) = true := by simp [hk]
        have q8 : (v.k == 8) = false := by simp [hk]
        obtain ⟨z, hz⟩ : ∃ z, z = nxr s1 := ⟨_, rfl⟩
        rw [← hz] at HIH ⊢
        clear hz hn8 hn3 hn5 hk hk5 h2
        go_wp2_with (first
          | (go_at_call 26; refine (HIH.out w (Below.refl _ _)).mono ?_; rintro e w1 ⟨rfl, hb1⟩; have hM1 := HM.out.below hb1; have hz1 := hb1.size; obtain ⟨gb, off, hA, hgb, hok, hcell⟩ := hM1.at_ HV.out; subst hA; have d14 : w1.cell? ⟨gm, 1 + 3, none⟩ = some (.slice (some ⟨gb, off, none⟩) N C) := (by rw [hM1.blk.cell]; rfl); have HC := Lib.hid (cells4 hcell); obtain ⟨u1, hu1⟩ : ∃ u, u = w1.alloc (.cells #[.int .i64 v.k, .int .i64 v.n, .int .i64 v.x, .slice v.A v.m v.c] 36) := ⟨_, rfl⟩; have hbu1 : Below w1.heap.size w1 u1 := (by rw [hu1]; exact below_alloc _ _); have bu1 : Blk u1 w1.heap.size 36 #[.int .i64 v.k, .int .i64 v.n, .int .i64 v.x, .slice v.A v.m v.c] := (by rw [hu1]; exact Blk.new _ _ _); have HMU := Lib.hid (hM1.below hbu1); have HU1 := Lib.hid hu1; have HBU := Lib.hid bu1; clear hM1 hcell hok hu1 bu1)
          | ((with_reducible show wpList _ _ _ (Oper.mk (some 28) (Op.load 36 _) _ _ _ _ :: _) _ _); refine wpList_load_agg rfl 36 (.tmp 27) rfl gb (off + j * 36) rfl #[.int .i64 v.k, .int .i64 v.n, .int .i64 v.x, .slice v.A v.m v.c] aggFr rfl HC.out ?_)
          | ((with_reducible show wpList _ _ _ (Oper.mk (some 30) (Op.load 36 _) _ _ _ _ :: _) _ _); rw [← HU1.out]; refine wpList_load_whole rfl 36 (.tmp 8) rfl w1.heap.size rfl #[.int .i64 v.k, .int .i64 v.n, .int .i64 v.x, .slice v.A v.m v.c] aggFr rfl _ HBU.out ?_)
          | (go_at_call 36; refine (greets_c HMU.out v.k v.n v.x v.A v.m v.c false HGD.out).mono ?_; rintro e w2 ⟨rfl, hb2⟩; have hM2 := HMU.out.below hb2; have b2 := HBU.out.below hb2 HBU.out.lt; have e20 : w2.cell? ⟨w1.heap.size, 0, none⟩ = some (.int .i64 v.k) := (by rw [b2.cell]; rfl); have e21 : w2.cell? ⟨w1.heap.size, 1, none⟩ = some (.int .i64 v.n) := (by rw [b2.cell]; rfl); have hz2 := hb2.size; have HM2 := Lib.hid hM2; have HB2 := Lib.hid b2; clear hM2 b2))
        refine bodyPost_ret (results_tmp2 rfl _ _ _) rfl ?_
        exact ⟨rfl, hb1.trans ((hbu1.trans (hb2.mono hbu1.size)).mono hz1)⟩
    have q3 : (v.k == 3) = false := by simpa using hk
    have q5 : (v.k == 5) = false := by simpa using hk5
    have q8 : (v.k == 8) = false := by simpa using hn8
    obtain ⟨z, hz⟩ : ∃ z, z = nxr s1 := ⟨_, rfl⟩
    rw [← hz] at HIH ⊢
    clear hz hn8 hn3 hn5 hk hk5
    go_wp2_with (first
      | (go_at_call 26; refine (HIH.out w (Below.refl _ _)).mono ?_; rintro e w1 ⟨rfl, hb1⟩; have hM1 := HM.out.below hb1; have hz1 := hb1.size; obtain ⟨gb, off, hA, hgb, hok, hcell⟩ := hM1.at_ HV.out; subst hA; have d14 : w1.cell? ⟨gm, 1 + 3, none⟩ = some (.slice (some ⟨gb, off, none⟩) N C) := (by rw [hM1.blk.cell]; rfl); have HC := Lib.hid (cells4 hcell); obtain ⟨u1, hu1⟩ : ∃ u, u = w1.alloc (.cells #[.int .i64 v.k, .int .i64 v.n, .int .i64 v.x, .slice v.A v.m v.c] 36) := ⟨_, rfl⟩; have hbu1 : Below w1.heap.size w1 u1 := (by rw [hu1]; exact below_alloc _ _); have bu1 : Blk u1 w1.heap.size 36 #[.int .i64 v.k, .int .i64 v.n, .int .i64 v.x, .slice v.A v.m v.c] := (by rw [hu1]; exact Blk.new _ _ _); have HMU := Lib.hid (hM1.below hbu1); have HU1 := Lib.hid hu1; have HBU := Lib.hid bu1; clear hM1 hcell hok hu1 bu1)
      | ((with_reducible show wpList _ _ _ (Oper.mk (some 28) (Op.load 36 _) _ _ _ _ :: _) _ _); refine wpList_load_agg rfl 36 (.tmp 27) rfl gb (off + j * 36) rfl #[.int .i64 v.k, .int .i64 v.n, .int .i64 v.x, .slice v.A v.m v.c] aggFr rfl HC.out ?_)
      | ((with_reducible show wpList _ _ _ (Oper.mk (some 30) (Op.load 36 _) _ _ _ _ :: _) _ _); rw [← HU1.out]; refine wpList_load_whole rfl 36 (.tmp 8) rfl w1.heap.size rfl #[.int .i64 v.k, .int .i64 v.n, .int .i64 v.x, .slice v.A v.m v.c] aggFr rfl _ HBU.out ?_)
      | (go_at_call 36; refine (greets_c HMU.out v.k v.n v.x v.A v.m v.c false HGD.out).mono ?_; rintro e w2 ⟨rfl, hb2⟩; have hM2 := HMU.out.below hb2; have b2 := HBU.out.below hb2 HBU.out.lt; have e20 : w2.cell? ⟨w1.heap.size, 0, none⟩ = some (.int .i64 v.k) := (by rw [b2.cell]; rfl); have e21 : w2.cell? ⟨w1.heap.size, 1, none⟩ = some (.int .i64 v.n) := (by rw [b2.cell]; rfl); have hz2 := hb2.size; have HM2 := Lib.hid hM2; have HB2 := Lib.hid b2; clear hM2 b2))
    refine bodyPost_ret (results_tmp2 rfl _ _ _) rfl ?_
    exact ⟨rfl, hb1.trans ((hbu1.trans (hb2.mono hbu1.size)).mono hz1)⟩
end Go.Proofs.Ytiadfbcdopfibaa

