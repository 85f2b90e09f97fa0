/-
  LoginIn: when a session is in (printed by wip/gen_login12.py).
-/
import Derived.Test.YtiadfbcdopfibaaLoginLaw
namespace Go.Proofs.Ytiadfbcdopfibaa.loginIn
open Go.RowKit Go.Proofs.Ytiadfbcdopfibaa
set_option linter.unusedVariables false
set_option linter.unusedSimpArgs false
set_option maxRecDepth 100000
set_option maxHeartbeats 4000000 in
theorem walk (cs0 : List Value) (w : World) (R0 : Rds w (.cons (.cons (.int .i64) (.cons (.int .i64) (.cons (.slice (.int .u8) 1 1) (.cons (.slice (.int .u8) 1 1) .nil)))) (.cons (.slice (.cons (.cons (.int .i64) (.cons (.int .i64) (.cons (.int .i64) (.cons (.slice (.int .u8) 1 1) .nil)))) (.cons (.int .i64) (.cons .bool .nil))) 6 64) .nil)) cs0) (U0 : BdsR w 1048576 (.cons (.cons (.int .i64) (.cons (.int .i64) (.cons (.slice (.int .u8) 1 1) (.cons (.slice (.int .u8) 1 1) .nil)))) (.cons (.slice (.cons (.cons (.int .i64) (.cons (.int .i64) (.cons (.int .i64) (.cons (.slice (.int .u8) 1 1) .nil)))) (.cons (.int .i64) (.cons .bool .nil))) 6 64) .nil)) cs0) :
    Calls Try.prog 6 #[.agg cs0.toArray] w fun e w' => e = .returned (.bool true) ∧ Below w.heap.size w w' := by
  obtain ⟨tn, init, At, nt, ct, th, Ao, no, co, ou, A, n, c, ops, e0, ht, ho, hnt, hno, hs⟩ := script R0 U0
  rw [e0]
  clear R0 U0 e0
  have hthl : th.length = nt := ht.len
  have houl : ou.length = no := ho.len
  have hln : ops.length = n := hs.1
  have hn1 : n ≤ 1048576 := hs.2.1
  obtain ⟨gc, hgc⟩ : ∃ g, g = w.heap.size := ⟨_, rfl⟩
  obtain ⟨v, hv⟩ : ∃ v, v = w.alloc (.cells #[.int .i64 tn, .int .i64 init, .slice At nt ct, .slice Ao no co, .slice A n c] 49) := ⟨_, rfl⟩
  have b1 : Blk v gc 49 #[.int .i64 tn, .int .i64 init, .slice At nt ct, .slice Ao no co, .slice A n c] := by rw [hv, hgc]; exact Blk.new _ _ _
  have hbv : Below w.heap.size w v := by rw [hv]; exact below_alloc _ _
  have hz1 : v.heap.size = w.heap.size + 1 := by rw [hv, World.size_alloc]
  have hz := hbv.size
  have HZ1 := Lib.hid hz1
  have HV := Lib.hid hv
  have HB1 := Lib.hid b1
  have HT := Lib.hid ht
  have HO := Lib.hid ho
  have HS := Lib.hid hs
  have HL := Lib.hid hln
  have HTL := Lib.hid hthl
  have HOL := Lib.hid houl
  have HGC := Lib.hid hgc
  clear hv b1 ht ho hs hthl houl hln hz1 hgc
  by_cases hbig : 3000 < nt + no + tot ops
  · go_enter Try.func6, Try.ntmps6
    go_wp2_with (first
      | (go_at_call 11; rw [← HV.out]; refine (alive_c v).mono ?_; rintro e v1 ⟨rfl, hb1⟩; have b11 := HB1.out.below hb1 HB1.out.lt; have hz11 := hb1.size; have HWV1 := Lib.hid (hbv.trans (hb1.mono hz)); have b11w : Blk v1 w.heap.size 49 #[.int .i64 tn, .int .i64 init, .slice At nt ct, .slice Ao no co, .slice A n c] := HGC.out ▸ b11)
      | ((with_reducible show wpList _ _ _ (Oper.mk (some 15) (Op.load 49 (.tmp 1)) _ _ _ _ :: _) _ _); refine wpList_load_whole rfl 49 (.tmp 1) rfl w.heap.size rfl #[.int .i64 tn, .int .i64 init, .slice At nt ct, .slice Ao no co, .slice A n c] aggCase rfl _ b11w ?_)
      | (go_at_call 18; refine (long_c tn init hnt hno (HS.out.below HWV1.out)).mono ?_; rintro e v2 ⟨r, rfl, hr, hb2⟩; rw [decide_eq_true hbig] at hr; subst hr; have HWV2 := Lib.hid (HWV1.out.trans (hb2.mono HWV1.out.size))))
    go_ret
    exact ⟨rfl, HWV2.out⟩
  have htot : tot ops ≤ 3000 := by omega
  have hn300 : n ≤ 300 := by have := tot_ge ops; have := HL.out; omega
  have hBZ := buildSumZ
  clear htot
  go_enter Try.func6, Try.ntmps6
  go_wp2_with (first
    | (go_at_call 11; rw [← HV.out]; refine (alive_c v).mono ?_; rintro e v1 ⟨rfl, hb1⟩; have b11 := HB1.out.below hb1 HB1.out.lt; have hz11 := hb1.size; have HWV1 := Lib.hid (hbv.trans (hb1.mono hz)); have b11w : Blk v1 w.heap.size 49 #[.int .i64 tn, .int .i64 init, .slice At nt ct, .slice Ao no co, .slice A n c] := HGC.out ▸ b11)
    | ((with_reducible show wpList _ _ _ (Oper.mk (some 15) (Op.load 49 (.tmp 1)) _ _ _ _ :: _) _ _); refine wpList_load_whole rfl 49 (.tmp 1) rfl w.heap.size rfl #[.int .i64 tn, .int .i64 init, .slice At nt ct, .slice Ao no co, .slice A n c] aggCase rfl _ b11w ?_)
    | (go_at_call 18; refine (long_c tn init hnt hno (HS.out.below HWV1.out)).mono ?_; rintro e v2 ⟨r, rfl, hr, hb2⟩; rw [decide_eq_false hbig] at hr; subst hr; have HWV2 := Lib.hid (HWV1.out.trans (hb2.mono HWV1.out.size)); have hz2 := hb2.size; have b12 := b11.below hb2 b11.lt; have b12w : Blk v2 w.heap.size 49 #[.int .i64 tn, .int .i64 init, .slice At nt ct, .slice Ao no co, .slice A n c] := HGC.out ▸ b12; have d4 : v2.cell? ⟨w.heap.size, 4, none⟩ = some (.slice A n c) := (by rw [b12w.cell]; rfl))
    | ((with_reducible show wpList _ _ _ (Oper.mk (some 18) (Op.load 24 _) _ _ _ _ :: _) _ _); refine wpList_load_agg rfl 24 (.tmp 17) rfl w.heap.size 0 rfl #[.int .i64 tn, .int .i64 init, .slice At nt ct, .slice Ao no co] aggSec rfl (fun j q hj => by rw [Nat.zero_add, (b12w).cell]; match j, hj with | 0, h => exact h | 1, h => exact h | 2, h => exact h | 3, h => exact h | j + 4, h => simp at h) ?_)
    | (go_at_call 12; refine (new_c (HT.out.below HWV2.out) (HO.out.below HWV2.out) HWV2.out.size (by omega) (by omega)).mono ?_; rintro e v3 ⟨gs, rfl, hse3, hb3⟩; have hz3 := hb3.size; have hgs3 := hse3.hb; have hgl3 := hse3.lt; have HE3 := Lib.hid hse3; have b13 := b12.below hb3 b12.lt; have b13w : Blk v3 w.heap.size 49 #[.int .i64 tn, .int .i64 init, .slice At nt ct, .slice Ao no co, .slice A n c] := HGC.out ▸ b13; clear hse3; have bs4 := Blk.new v3 34 (arr8 (z8' 32)); have hbs4 := below_alloc v3 (.cells (arr8 (z8' 32)) 34))
    | ((with_reducible show wpList _ _ _ (Oper.mk (some 4) (Op.alloc _) _ _ _ _ :: _) _ _); refine wpList_alloc_agg rfl 34 rfl (arr8 (z8' 32)) zero44 ?_)
    | ((with_reducible show wpList _ _ _ (Oper.mk none (Op.store 34 (.tmp 4) _) _ _ _ _ :: _) _ _); refine wpList_store8 rfl 34 (.tmp 4) (.tmp 20) rfl v3.heap.size rfl (z8' 32) rfl agg44 (len_z8' 32) _ _ bs4 (by rw [size_arr8, len_z8']) ?_; intro v4 b4 q4 s4; have hb4 := hbs4.grown q4 hbs4.size (fun k hk => by cases hk; exact Nat.le_refl _); have b14w := b13w.below hb4 b13w.lt; have e4 : v4.cell? ⟨w.heap.size, 4, none⟩ = some (.slice A n c) := (by rw [b14w.cell]; rfl)))
  have hz4 := hb4.size
  have hse4 := HE3.out.below hb4
  have b14 := b13.below hb4 b13.lt
  have HW4 := Lib.hid (((HWV2.out.trans (hb3.mono (by have := HWV2.out.size; omega))).trans (hb4.mono (by have := HWV2.out.size; omega))) : Below w.heap.size w v4)
  have hwv2 := HWV2.out.size
  have HG4 : v3.heap.size ≠ gs := by omega
  have HGN : gc ≠ gs := by have := HGC.out; have := HZ1.out; have := hb1.size; omega
  have HGN4 : gc ≠ v3.heap.size := by have := HGC.out; have := HZ1.out; have := hb1.size; omega
  have hgw : w.heap.size ≤ gs := by omega
  have hgw4 : w.heap.size ≤ v3.heap.size := by omega
  obtain ⟨g4, hg4⟩ : ∃ g, g = v3.heap.size := ⟨_, rfl⟩
  rw [← hg4] at b4 HG4 HGN4 hgw4
  have hz64 : v2.heap.size ≤ g4 := by omega
  have HB14 := Lib.hid b14
  have HB4 := Lib.hid b4
  have HE4 := Lib.hid hse4
  have HG44 := Lib.hid hg4
  rw [← HG44.out]
  clear b11 b12 b12w b13 b13w b14 b14w e4 d4 hse4 HE3 bs4 hbs4 q4 s4 HB1 b4 hg4 hz3 hgs3 hgl3
  go_loopw [5, 6, 7, 24] (fun v5 v6 v7 v24 wr => ∃ (i : Nat) (s : Sst) (el : List UInt8) (a b : Bool) (t : Nat), i ≤ n ∧ v24 = .int .i64 (i : Int) ∧ s.gr ≤ i ∧ (0 ≤ s.nx ∧ s.nx ≤ (i : Int) + 1) ∧ el.length = 32 ∧ (v5 = .bool a ∧ v6 = .bool b ∧ v7 = .int .i64 (t : Int) ∧ (a = true ↔ s.st = 1) ∧ (b = true ↔ s.st = 2) ∧ (b = true → s.nx = (t : Int) + 1) ∧ t ≤ i ∧ (s.st = 1 → s.ch = el)) ∧ Se wr v2.heap.size gs init th ou s.st (s.gr : Int) s.ch s.nx ∧ Blk wr g4 34 (arr8 el) ∧ Blk wr gc 49 #[.int .i64 tn, .int .i64 init, .slice At nt ct, .slice Ao no co, .slice A n c] ∧ Below w.heap.size w wr) (fun v5 v6 v7 v24 _ => n - (intOf v24).toNat)
  case atStart => exact ⟨0, ⟨0, 0, 0, z8' 32⟩, z8' 32, false, false, 0, by omega, rfl, Nat.le_refl _, ⟨by decide, by decide⟩, len_z8' 32, ⟨rfl, rfl, rfl, by decide, by decide, by decide, by omega, by decide⟩, HE4.out, HB4.out, HB14.out, HW4.out⟩
  case round =>
    obtain ⟨i, s, el, a, b, t, hi, rfl, hgr, hnx, hel, ⟨rfl, rfl, rfl, ha, hb, hbt, hti, hch⟩, hse, hb4r, hbc, hw⟩ := hrel
    have hzw := hw.size
    have hi0 : (0 : Int) ≤ (i : Int) := by omega
    by_cases hlt : i < n
    · have hil : (i : Int) < (n : Int) := by omega
      have hi300 : (i : Int) ≤ 300 := by omega
      obtain ⟨o, ho⟩ : ∃ o, ops[i]? = some o := ⟨ops[i]'(by rw [HL.out]; exact hlt), List.getElem?_eq_getElem _⟩
      obtain ⟨gb, off, rfl, hgb, hok, hcell⟩ := HS.out.at_ ho
      have hm0 := hok.2
      have HCR := Lib.hid (show ∀ (j : Nat) v, (#[.int .i64 o.k, .int .i64 o.n, .int .i64 o.x, .slice o.A o.m o.c, .int .i64 o.d, .bool o.o] : Array Value)[j]? = some v → wr.cell? ⟨gb, off + i * 6 + j, none⟩ = some v from fun j v hj => (hw.cell (p := ⟨gb, off + i * 6 + j, none⟩) hgb).trans (hcell j v (by simpa [Opv.row] using hj)))
      obtain ⟨u1, hu1⟩ : ∃ u, u = wr.alloc (.cells #[.int .i64 o.k, .int .i64 o.n, .int .i64 o.x, .slice o.A o.m o.c, .int .i64 o.d, .bool o.o] 38) := ⟨_, rfl⟩
      obtain ⟨g6, hg6⟩ : ∃ g, g = wr.heap.size := ⟨_, rfl⟩
      have hbu1 : Below wr.heap.size wr u1 := by rw [hu1]; exact below_alloc _ _
      have hu1z : u1.heap.size = wr.heap.size + 1 := by rw [hu1, World.size_alloc]
      have b16 : Blk u1 g6 38 #[.int .i64 o.k, .int .i64 o.n, .int .i64 o.x, .slice o.A o.m o.c, .int .i64 o.d, .bool o.o] := by rw [hu1, hg6]; exact Blk.new _ _ _
      have hwu1 := hw.trans (hbu1.mono hzw)
      have b1c := hbc.below hbu1 hbc.lt
      have b14 := hb4r.below hbu1 hb4r.lt
      have hgsl := hse.lt
      have hg4l := hb4r.lt
      have hgcl := hbc.lt
      have HSE1 := Lib.hid (hse.below hbu1)
      have hsl1 := hok.1
      have hfar0 : 0 < o.m → ∀ b off, o.A = some ⟨b, off, none⟩ → b < w.heap.size := fun h b off e => by
        obtain ⟨b', off', e', hl, _⟩ := hsl1.2.2.2 (by have := hsl1.2.1; omega)
        rw [e] at e'
        cases e'; exact hl
      obtain ⟨fn, fd, hfr⟩ : ∃ fn fd, frm init th s o.o o.k o.n o.ds el = (fn, fd) := ⟨_, _, rfl⟩
      have hfc := frame_c (w := u1) (B0 := w.heap.size) (tn := tn) (At := At) (Ao := Ao) (no := no) (co := co) o.k o.n o.x o.d init o.o HSE1.out hel ((HT.out.below hwu1).more hwu1.size) hnt ((hsl1.below hwu1).more hwu1.size) hm0 hfar0
      rw [hfr] at hfc
      have HFC := Lib.hid hfc
      have HFR := Lib.hid hfr
      have HU1 := Lib.hid hu1
      have HG6 := Lib.hid hg6
      have HU1Z := Lib.hid hu1z
      have H16 := Lib.hid b16
      have H1C := Lib.hid b1c
      have H14 := Lib.hid b14
      have HWU1 := Lib.hid hwu1
      have HEL := Lib.hid hel
      have HNX := Lib.hid hnx
      have HGR := Lib.hid hgr
      have HW := Lib.hid hw
      have hgsb := hse.hb
      clear hu1 hg6 hu1z b16 b1c b14 hwu1 hbu1 hcell hok hsl1 hfar0 hfc hfr hse hbc hb4r hw hel hnx hgr
      go_wp2_with (first
        | ((with_reducible show wpList _ _ _ (Oper.mk (some 27) (Op.load 38 _) _ _ _ _ :: _) _ _); refine wpList_load_agg rfl 38 (.tmp 26) rfl gb (off + i * 6) rfl #[.int .i64 o.k, .int .i64 o.n, .int .i64 o.x, .slice o.A o.m o.c, .int .i64 o.d, .bool o.o] aggOp rfl HCR.out ?_)
        | ((with_reducible show wpList _ _ _ (Oper.mk (some 28) (Op.load 38 (.tmp 9)) _ _ _ _ :: _) _ _); rw [← HU1.out, ← HG6.out]; refine wpList_load_whole rfl 38 (.tmp 9) rfl g6 rfl #[.int .i64 o.k, .int .i64 o.n, .int .i64 o.x, .slice o.A o.m o.c, .int .i64 o.d, .bool o.o] aggOp rfl _ H16.out ?_)
        | ((with_reducible show wpList _ _ _ (Oper.mk (some 30) (Op.load 24 _) _ _ _ _ :: _) _ _); refine wpList_load_agg rfl 24 (.tmp 29) rfl gc 0 (by rw [HGC.out]; rfl) #[.int .i64 tn, .int .i64 init, .slice At nt ct, .slice Ao no co] aggSec rfl (fun j q hj => by rw [Nat.zero_add, (H1C.out).cell]; match j, hj with | 0, h => exact h | 1, h => exact h | 2, h => exact h | 3, h => exact h | j + 4, h => simp at h) ?_)
        | ((with_reducible show wpList _ _ _ (Oper.mk (some 32) (Op.load 34 (.tmp 4)) _ _ _ _ :: _) _ _); refine wpList_load_whole rfl 34 (.tmp 4) rfl g4 rfl (arr8 el) agg44 (by rw [size_arr8]; exact HEL.out) _ H14.out ?_)
        | (go_at_call 21; refine HFC.out.mono ?_; rintro e v5 ⟨A', m', c', rfl, hd5, hm5, hfar5, hb5⟩))
      obtain ⟨u2, hu2⟩ : ∃ u, u = v5.alloc (.cells #[.int .i64 o.k, .int .i64 fn, .int .i64 o.x, .slice A' m' c'] 36) := ⟨_, rfl⟩
      obtain ⟨g7, hg7⟩ : ∃ g, g = v5.heap.size := ⟨_, rfl⟩
      have hbu2 : Below v5.heap.size v5 u2 := by rw [hu2]; exact below_alloc _ _
      have hz5 := hb5.size
      have hu2z : u2.heap.size = v5.heap.size + 1 := by rw [hu2, World.size_alloc]
      have b27 : Blk u2 g7 36 #[.int .i64 o.k, .int .i64 fn, .int .i64 o.x, .slice A' m' c'] := by rw [hu2, hg7]; exact Blk.new _ _ _
      have hb12 : Below u1.heap.size u1 u2 := hb5.trans (hbu2.mono hz5)
      rw [← hu2, ← hg7]
      have b26 := H16.out.below hb12 H16.out.lt
      have b2c := H1C.out.below hb12 H1C.out.lt
      have b24 := H14.out.below hb12 H14.out.lt
      have HE2 := Lib.hid (HSE1.out.below hb12)
      have HW2 := Lib.hid (HWU1.out.trans (hb12.mono HWU1.out.size))
      have HD2 := Lib.hid ((hd5.below hbu2).more hbu2.size)
      have hz12 := hb12.size
      have HU1Z' := HU1Z.out
      have HG6' := HG6.out
      have hgn6 : g6 ≠ gs := by omega
      have hg67 : g6 < g7 := by have := H16.out.lt; omega
      have hg47 : g4 < g7 := by omega
      have hgc7 : gc < g7 := by omega
      have hzwu : wr.heap.size ≤ u1.heap.size := by omega
      have hgn7 : g7 ≠ gs := by omega
      have hgn46 : g4 ≠ g6 := by omega
      have hgl2 : gs < u2.heap.size := by omega
      have hz2w := HW2.out.size
      have HFARD := Lib.hid (show 0 < m' → ∀ b off, A' = some ⟨b, off, none⟩ → b ≠ gs from fun h b off e => by have := hfar5 h b off e; omega)
      clear hu2 hg7 hbu2 hu2z hfar5 hd5 hb5 HG6' HU1Z'
      obtain ⟨rr, hrr⟩ : ∃ r, r = ansOf (s.gr : Int) th el := ⟨_, rfl⟩
      have HRL := Lib.hid (show rr.length = 32 by rw [hrr]; exact len_ansOf _ _ _)
      have HRR := Lib.hid hrr
      clear hrr
      refine wp_norm ?_
      refine (wpIn_wide (n := 4)).1 ?_
      refine wpIn_region_rel free_wide rfl 8 (fun W W' => Below W.heap.size W W') (fun W => Below u2.heap.size u2 W)
        [Det (.pointer (some ⟨gs, 0, none⟩)), Det (.int .i64 (s.gr : Int)), Det (.pointer (some ⟨w.heap.size, 0, none⟩)), Det (.pointer (some ⟨w.heap.size, 2, none⟩)), Det (.slice At nt ct), Det (.slice (some ⟨g4, 0, none⟩) 32 32), Det (.agg (arr8 rr)), RelW u2.heap.size 34 (arr8 (z8' 32)), Any]
        [[], [(0, some 34)], [], [(2, some 36)], [(3, some 37)], [], [(1, some 35), (4, some 38), (5, some 39)], [], [(7, some 11), (6, some 40)]]
        [[], [0], [], [2], [2, 3], [], [0, 1, 2, 3, 4, 5], [], [0, 1, 2, 3, 4, 5, 6, 7]]
        [(0, some 34), (1, some 35), (2, some 36), (3, some 37), (4, some 38), (5, some 39), (6, some 40), (7, some 11), (8, none)] (by kernel_rfl) (by kernel_rfl) (by kernel_rfl) (fun W W' h1 h2 => h1.trans (h2.mono h1.size)) ((Below.refl _ _).drew) ?_ ?_ ?_
      · exact (AllMono.cons Det.later (AllMono.cons Det.later (AllMono.cons Det.later (AllMono.cons Det.later (AllMono.cons Det.later (AllMono.cons Det.later (AllMono.cons Det.later (AllMono.cons RelW.later (AllMono.cons Any.later AllMono.nil)))))))))
      · refine AllOb.cons ?_ (AllOb.cons ?_ (AllOb.cons ?_ (AllOb.cons ?_ (AllOb.cons ?_ (AllOb.cons ?_ (AllOb.cons ?_ (AllOb.cons ?_ (AllOb.nil))))))))
        · intro uF W hC' hU aF hF
          have hC : Below u2.heap.size u2 W := hC'
          clear hC'
          simp only [puts] at hF
          subst hF
          go_wp2_with (fail)
          exact ⟨rfl, rfl, (Below.refl _ _), rfl⟩
        · intro uF W hC' hU aF hF
          have hC : Below u2.heap.size u2 W := hC'
          clear hC'
          have h34 : (Det (.pointer (some ⟨gs, 0, none⟩))) (uF 0) W := hU.1
          clear hU
          simp only [puts, Act.put, List.setIfInBounds_toArray, List.set_cons_zero, List.set_cons_succ] at hF
          generalize uF 0 = x34 at h34 hF
          obtain rfl : x34 = (.pointer (some ⟨gs, 0, none⟩)) := h34
          subst hF
          go_wp2_with ((go_at_call 22; refine (greeted_c (HE2.out.below hC)).mono ?_; rintro e W1 ⟨rfl, rfl⟩))
          exact ⟨rfl, rfl, (Below.refl _ _), rfl⟩
        · intro uF W hC' hU aF hF
          have hC : Below u2.heap.size u2 W := hC'
          clear hC'
          simp only [puts] at hF
          subst hF
          go_wp2_with (fail)
          exact ⟨rfl, rfl, (Below.refl _ _), rfl⟩
        · intro uF W hC' hU aF hF
          have hC : Below u2.heap.size u2 W := hC'
          clear hC'
          have h36 : (Det (.pointer (some ⟨w.heap.size, 0, none⟩))) (uF 2) W := hU.1
          clear hU
          simp only [puts, Act.put, List.setIfInBounds_toArray, List.set_cons_zero, List.set_cons_succ] at hF
          generalize uF 2 = x36 at h36 hF
          obtain rfl : x36 = (.pointer (some ⟨w.heap.size, 0, none⟩)) := h36
          subst hF
          go_wp2_with (fail)
          exact ⟨rfl, rfl, (Below.refl _ _), rfl⟩
        · intro uF W hC' hU aF hF
          have hC : Below u2.heap.size u2 W := hC'
          clear hC'
          have h37 : (Det (.pointer (some ⟨w.heap.size, 2, none⟩))) (uF 3) W := hU.1
          clear hU
          simp only [puts, Act.put, List.setIfInBounds_toArray, List.set_cons_zero, List.set_cons_succ] at hF
          generalize uF 3 = x37 at h37 hF
          obtain rfl : x37 = (.pointer (some ⟨w.heap.size, 2, none⟩)) := h37
          subst hF
          have d1 : W.cell? ⟨w.heap.size, 2, none⟩ = some (.slice At nt ct) := by rw [← HGC.out, (b2c.below hC b2c.lt).cell]; rfl
          go_wp2_with (fail)
          exact ⟨rfl, rfl, (Below.refl _ _), rfl⟩
        · intro uF W hC' hU aF hF
          have hC : Below u2.heap.size u2 W := hC'
          clear hC'
          simp only [puts] at hF
          subst hF
          have hto := arr_off_run (P := Try.prog) (T := 34) Try.underlying34 size1 (by omega) g4 0
          go_wp2_with (fail)
          exact ⟨rfl, rfl, (Below.refl _ _), rfl⟩
        · intro uF W hC' hU aF hF
          have hC : Below u2.heap.size u2 W := hC'
          clear hC'
          have h35 : (Det (.int .i64 (s.gr : Int))) (uF 1) W := hU.1
          have h38 : (Det (.slice At nt ct)) (uF 4) W := hU.2.1
          have h39 : (Det (.slice (some ⟨g4, 0, none⟩) 32 32)) (uF 5) W := hU.2.2.1
          clear hU
          simp only [puts, Act.put, List.setIfInBounds_toArray, List.set_cons_zero, List.set_cons_succ] at hF
          generalize uF 1 = x35 at h35 hF
          generalize uF 4 = x38 at h38 hF
          generalize uF 5 = x39 at h39 hF
          obtain rfl : x35 = (.int .i64 (s.gr : Int)) := h35
          obtain rfl : x38 = (.slice At nt ct) := h38
          obtain rfl : x39 = (.slice (some ⟨g4, 0, none⟩) 32 32) := h39
          subst hF
          go_wp2_with ((go_at_call 17; refine (refanswer_c (s.gr : Int) (((HT.out.below HW2.out).below (hC.mono HW2.out.size)).more (Nat.le_trans HW2.out.size hC.size)) (sum_sl (b24.below hC b24.lt) HEL.out) (Nat.le_refl _) (by omega) (by omega)).mono ?_; rintro e W1 ⟨rfl, hb⟩; rw [← HRR.out]))
          exact ⟨rfl, rfl, hb, rfl⟩
        · intro uF W hC' hU aF hF
          have hC : Below u2.heap.size u2 W := hC'
          clear hC'
          simp only [puts] at hF
          subst hF
          go_wp2_with (((with_reducible show wpList _ _ _ (Oper.mk (some 11) (Op.alloc _) _ _ _ _ :: _) _ _); refine wpList_alloc_agg (by rfl) 34 rfl (arr8 (z8' 32)) zero44 ?_))
          exact ⟨rfl, rfl, (below_alloc _ _), ⟨_, rfl, hC.size, Blk.new _ _ _⟩⟩
      intro uF W3 hC' hU aF hF
      have hCW3 : Below u2.heap.size u2 W3 := hC'
      clear hC'
      have h40 : (Det (.agg (arr8 rr))) (uF 6) W3 := hU.2.2.2.2.2.2.1
      have h11 : (RelW u2.heap.size 34 (arr8 (z8' 32))) (uF 7) W3 := hU.2.2.2.2.2.2.2.1
      clear hU
      simp only [List.take_succ_cons, List.take_zero, puts, Act.put, List.setIfInBounds_toArray, List.set_cons_zero, List.set_cons_succ] at hF
      generalize uF 0 = x34 at hF
      generalize uF 1 = x35 at hF
      generalize uF 2 = x36 at hF
      generalize uF 3 = x37 at hF
      generalize uF 4 = x38 at hF
      generalize uF 5 = x39 at hF
      generalize uF 6 = x40 at h40 hF
      generalize uF 7 = x11 at h11 hF
      obtain rfl : x40 = (.agg (arr8 rr)) := h40
      obtain ⟨g11, rfl, z11, b11⟩ := h11
      subst hF
      simp only [List.drop_succ_cons, List.drop_zero]
      refine wpListIn_of free_wide (fun ⟨_, _, h⟩ => h) rfl ?_
      refine wpList_store8 rfl 34 (.tmp 11) (.tmp 40) rfl g11 rfl rr rfl agg44 HRL.out _ _ b11 (by rw [size_arr8, len_z8']) ?_
      intro u3 b38 q3 s3
      simp only [Act.put, List.setIfInBounds_toArray, List.set_cons_succ, List.set_cons_zero]
      refine wpList_nil ?_
      dsimp only [Exit.then]
      obtain ⟨gr, hgrr⟩ : ∃ g, g = g11 := ⟨_, rfl⟩
      rw [← hgrr] at b38 ⊢
      have hzr : u2.heap.size ≤ gr := by omega
      have hb23 : Below u2.heap.size u2 u3 := hCW3.grown q3 hCW3.size (fun k hk => by cases hk; exact z11)
      have hz23 := hb23.size
      have b37 := b27.below hb23 b27.lt
      have b36 := b26.below hb23 b26.lt
      have b3c := b2c.below hb23 b2c.lt
      have b34 := b24.below hb23 b24.lt
      have HE3 := Lib.hid (HE2.out.below hb23)
      have HW3 := Lib.hid (HW2.out.trans (hb23.mono HW2.out.size))
      have HD3 := Lib.hid ((HD2.out.below hb23).more hb23.size)
      have hgl3 : gs < u3.heap.size := by omega
      have hgnr : gr ≠ gs := by omega
      clear q3 s3 b27 b26 b2c b24 HE2 hgrr b11 HD2
      go_wp2_with fail
      have b47 := b37
      have b46 := b36
      have b4c := b3c
      have b44 := b34
      have b48 := b38
      have HEQ := HE3
      have HWQ := HW3
      have HD4 := HD3
      have hgl4 := hgl3
      clear b37 b36 b3c b34 b38 HE3 HW3 HD3 hgl3
      have HHA := Lib.hid ha
      have HHB := Lib.hid hb
      have HBT := Lib.hid hbt
      have HCH := Lib.hid hch
      clear ha hb hbt hch
      obtain ⟨dd, hdd⟩ : ∃ x, x = drawOf o.d := ⟨_, rfl⟩
      have HDL := Lib.hid (show dd.length = 32 by rw [hdd]; exact len_drawOf o.d)
      have HDD := Lib.hid hdd
      obtain ⟨s1, out, hhn⟩ : ∃ s1 out, hnd init th ou s o.k fn fd dd = (s1, out) := ⟨_, _, rfl⟩
      have hbnd := hnd_b hhn HNX.out.1
      have hcs := hnd_cases hhn
      have HHN := Lib.hid hhn
      clear hdd hhn
      refine wp_norm ?_
      refine (wpIn_wide (n := 4)).1 ?_
      refine wpIn_region_relS free_wide rfl 6 (Fr [gs]) (fun W W' => Below W.heap.size W W') 4 (SC v2.heap.size gs init th ou s s1 u3)
        [Det (.pointer (some ⟨gs, 0, none⟩)), Det (.agg #[.int .i64 o.k, .int .i64 fn, .int .i64 o.x, .slice A' m' c']), Det (.agg #[.int .i64 o.k, .int .i64 o.n, .int .i64 o.x, .slice o.A o.m o.c, .int .i64 o.d, .bool o.o]), Det (.agg (arr8 dd)), RelV u3.heap.size out, RelW u3.heap.size 42 #[.slice none 0 0, .bool false, .bool false], Any]
        [[], [], [], [(2, some 43)], [(0, some 41), (1, some 42), (3, some 44)], [], [(5, some 12), (4, some 45)]]
        [[], [], [], [2], [0, 1, 2, 3], [], [0, 1, 2, 3, 4, 5]]
        [(0, some 41), (1, some 42), (2, some 43), (3, some 44), (4, some 45), (5, some 12), (6, none)] (by kernel_rfl) (by kernel_rfl) (by kernel_rfl) (fun b W W1 h1 h2 => h1.step h2) (by decide) (SC.drew HEQ.out) ?_ ?_ ?_
      · exact (AllMono.cons (Det.laterS hgl4) (AllMono.cons (Det.laterS hgl4) (AllMono.cons (Det.laterS hgl4) (AllMono.cons (Det.laterS hgl4) (AllMono.cons (RelV.laterS hgl4) (AllMono.cons (RelW.laterS hgl4) (AllMono.cons (Any.laterS hgl4) AllMono.nil)))))))
      · refine AllObS.cons (by decide) ?_ (AllObS.cons (by decide) ?_ (AllObS.cons (by decide) ?_ (AllObS.cons (by decide) ?_ (AllObS.call ?_ (AllObS.cons (by decide) ?_ (AllObS.nil))))))
        · intro bF uF W hC' hU aF hF
          have hC : SC v2.heap.size gs init th ou s s1 u3 bF W := hC'
          clear hC'
          simp only [puts] at hF
          subst hF
          go_wp2_with (fail)
          exact ⟨rfl, rfl, (Below.refl _ _), rfl⟩
        · intro bF uF W hC' hU aF hF
          have hC : SC v2.heap.size gs init th ou s s1 u3 bF W := hC'
          clear hC'
          simp only [puts] at hF
          subst hF
          go_wp2_with (((with_reducible show wpList _ _ _ (Oper.mk _ (Op.load _ _) _ _ _ _ :: _) _ _); refine wpList_load_whole (by rfl) 36 (.tmp 10) rfl g7 rfl #[.int .i64 o.k, .int .i64 fn, .int .i64 o.x, .slice A' m' c'] aggFr rfl _ (hC.blk b47 hgn7) ?_))
          exact ⟨rfl, rfl, (Below.refl _ _), rfl⟩
        · intro bF uF W hC' hU aF hF
          have hC : SC v2.heap.size gs init th ou s s1 u3 bF W := hC'
          clear hC'
          simp only [puts] at hF
          subst hF
          go_wp2_with (((with_reducible show wpList _ _ _ (Oper.mk _ (Op.load _ _) _ _ _ _ :: _) _ _); refine wpList_load_whole (by rfl) 38 (.tmp 9) rfl g6 rfl #[.int .i64 o.k, .int .i64 o.n, .int .i64 o.x, .slice o.A o.m o.c, .int .i64 o.d, .bool o.o] aggOp rfl _ (hC.blk b46 hgn6) ?_))
          exact ⟨rfl, rfl, (Below.refl _ _), rfl⟩
        · intro bF uF W hC' hU aF hF
          have hC : SC v2.heap.size gs init th ou s s1 u3 bF W := hC'
          clear hC'
          have h43 : (Det (.agg #[.int .i64 o.k, .int .i64 o.n, .int .i64 o.x, .slice o.A o.m o.c, .int .i64 o.d, .bool o.o])) (uF 2) W := hU.1
          clear hU
          simp only [puts, Act.put, List.setIfInBounds_toArray, List.set_cons_zero, List.set_cons_succ] at hF
          generalize uF 2 = x43 at h43 hF
          obtain rfl : x43 = (.agg #[.int .i64 o.k, .int .i64 o.n, .int .i64 o.x, .slice o.A o.m o.c, .int .i64 o.d, .bool o.o]) := h43
          subst hF
          go_wp2_with ((go_at_call 13; refine (draw_c _ _ _ o.d _ _ _ _ _).mono ?_; rintro e W1 ⟨rfl, hb⟩; rw [← HDD.out]))
          exact ⟨rfl, rfl, hb, rfl⟩
        · intro uF W hC' hU aF hF
          have hC : SC v2.heap.size gs init th ou s s1 u3 false W := hC'
          clear hC'
          have h41 : (Det (.pointer (some ⟨gs, 0, none⟩))) (uF 0) W := hU.1
          have h42 : (Det (.agg #[.int .i64 o.k, .int .i64 fn, .int .i64 o.x, .slice A' m' c'])) (uF 1) W := hU.2.1
          have h44 : (Det (.agg (arr8 dd))) (uF 3) W := hU.2.2.1
          clear hU
          simp only [puts, Act.put, List.setIfInBounds_toArray, List.set_cons_zero, List.set_cons_succ] at hF
          generalize uF 0 = x41 at h41 hF
          generalize uF 1 = x42 at h42 hF
          generalize uF 3 = x44 at h44 hF
          obtain rfl : x41 = (.pointer (some ⟨gs, 0, none⟩)) := h41
          obtain rfl : x42 = (.agg #[.int .i64 o.k, .int .i64 fn, .int .i64 o.x, .slice A' m' c']) := h42
          obtain rfl : x44 = (.agg (arr8 dd)) := h44
          subst hF
          go_wp2_with ((go_at_call 14; refine (handle_c (s := s) hC.se0 o.k fn o.x HDL.out hC.bw (by have := HGR.out; omega) (by have := HNX.out; omega) (by have := HNX.out; omega) (by have := HTL.out; omega) (by have := HOL.out; omega) ((slN_keep0 HD4.out (Nat.le_refl _) HFARD.out hC.fr).more hC.size) (Nat.le_refl _) HFARD.out).mono ?_; rintro e W1 hh; rw [HHN.out] at hh; obtain ⟨sv, rfl, hv, hh⟩ := hh))
          exact ⟨rfl, rfl, (hC.call2 hh), StepV.base_le hv hC.size⟩
        · intro bF uF W hC' hU aF hF
          have hC : SC v2.heap.size gs init th ou s s1 u3 bF W := hC'
          clear hC'
          simp only [puts] at hF
          subst hF
          go_wp2_with (((with_reducible show wpList _ _ _ (Oper.mk _ (Op.alloc _) _ _ _ _ :: _) _ _); refine wpList_alloc_agg (by rfl) 42 rfl #[.slice none 0 0, .bool false, .bool false] zeroSt ?_))
          exact ⟨rfl, rfl, (below_alloc _ _), ⟨_, rfl, hC.size, Blk.new _ _ _⟩⟩
      intro uF W7 hC' hU aF hF
      have hCW7 : SC v2.heap.size gs init th ou s s1 u3 true W7 := hC'
      clear hC'
      have h45 : (RelV u3.heap.size out) (uF 4) W7 := hU.2.2.2.2.1
      have h12 : (RelW u3.heap.size 42 #[.slice none 0 0, .bool false, .bool false]) (uF 5) W7 := hU.2.2.2.2.2.1
      clear hU
      simp only [List.take_succ_cons, List.take_zero, puts, Act.put, List.setIfInBounds_toArray, List.set_cons_zero, List.set_cons_succ] at hF
      generalize uF 0 = x41 at hF
      generalize uF 1 = x42 at hF
      generalize uF 2 = x43 at hF
      generalize uF 3 = x44 at hF
      generalize uF 4 = x45 at h45 hF
      generalize uF 5 = x12 at h12 hF
      obtain ⟨g12, rfl, z12, b12⟩ := h12
      subst hF
      simp only [List.drop_succ_cons, List.drop_zero]
      refine wpListIn_of free_wide (fun ⟨_, _, h⟩ => h) rfl ?_
      obtain ⟨A9, n9, c9, rfl⟩ := StepV.two h45
      refine wpList_store_whole rfl 42 (.tmp 12) (.tmp 45) rfl g12 rfl [.slice A9 n9 c9, .bool out.drew, .bool out.taken] rfl aggSt rfl _ _ b12 rfl (by simp [Value.oneCell']) ?_
      intro w8 b8S q8 s8
      simp only [Act.put, List.setIfInBounds_toArray, List.set_cons_succ, List.set_cons_zero]
      refine wpList_nil ?_
      dsimp only [Exit.then]
      have hz7 := hCW7.size
      obtain ⟨gt, hgt⟩ : ∃ g, g = g12 := ⟨_, rfl⟩
      rw [← hgt] at b8S ⊢
      have hC8 := hCW7.store b12 z12 (show v2.heap.size ≤ u3.heap.size by omega) q8
      have hz8 := hC8.size
      have HE8 := Lib.hid hC8.se1
      have b87 := hC8.blk b47 hgn7
      have b86 := hC8.blk b46 hgn6
      have b8c := hC8.blk b4c HGN
      have b84 := hC8.blk b44 HG4
      have HW8 := Lib.hid (HWQ.out.trans (hC8.bel.mono (by have := HWQ.out.size; omega)))
      have hgtn : gt ≠ gs := by omega
      have hg4t : g4 < gt := by omega
      have HWS := HW8.out.size
      clear q8 s8 b47 b46 b4c b44 b12 z12 hgt HEQ hCW7 h45
      have b88 := hC8.blk b48 hgnr
      have HD8 := Lib.hid ((slN_keep0 HD4.out (Nat.le_refl _) HFARD.out hC8.fr).more hz8)
      have e0 : w8.cell? ⟨g7, 0, none⟩ = some (.int .i64 o.k) := by rw [b87.cell]; rfl
      have e1 : w8.cell? ⟨g7, 1, none⟩ = some (.int .i64 fn) := by rw [b87.cell]; rfl
      have ht0 : (0 : Int) ≤ (t : Int) := by omega
      have ht3 : (t : Int) ≤ 300 := by omega
      have HBN := Lib.hid hbnd
      have hgcell : ∀ (p q : Bool) W, Blk W gt 42 #[.slice A9 n9 c9, .bool p, .bool q] → W.cell? ⟨gt, 1, none⟩ = some (.bool p) ∧ W.cell? ⟨gt, 2, none⟩ = some (.bool q) := fun p q W h => ⟨by rw [h.cell]; rfl, by rw [h.cell]; rfl⟩
      have HGCE := Lib.hid hgcell
      clear b48 HD4 hbnd hgcell
      rcases hcs with ⟨hk, rfl, hdr, htk⟩ | ⟨hk, hs1, hdr, htk, hres⟩ | ⟨hk, rfl, hdr, htk⟩ | ⟨hk, hs2, hn, rfl, hdr, htk⟩ | ⟨rfl, hdr, htk, hn8, hn3, hn5⟩
      · rw [hdr, htk] at b8S
        obtain ⟨d91, d92⟩ := HGCE.out _ _ _ b8S
        have q5 : (o.k == 5) = false := by simp [hk]
        have HK := Lib.hid hk
        clear hdr htk hk
        go_wp2_with (first
          | ((with_reducible show wpList _ _ _ (Oper.mk (some 49) (Op.load 38 (.tmp 9)) _ _ _ _ :: _) _ _); refine wpList_load_whole (by rfl) 38 (.tmp 9) rfl g6 rfl #[.int .i64 o.k, .int .i64 o.n, .int .i64 o.x, .slice o.A o.m o.c, .int .i64 o.d, .bool o.o] aggOp rfl _ b86 ?_)
          | (go_at_call 13; refine (draw_c _ _ _ o.d _ _ _ _ w8).mono ?_; rintro e wa ⟨rfl, hba⟩; rw [← HDD.out]; have hza := hba.size; have ba4 := b84.below hba b84.lt)
          | ((with_reducible show wpList _ _ _ (Oper.mk none (Op.store 34 (.tmp 4) _) _ _ _ _ :: _) _ _); refine wpList_store8 rfl 34 (.tmp 4) (.tmp 50) rfl g4 rfl dd rfl agg44 HDL.out _ _ ba4 (by rw [size_arr8]; exact HEL.out) ?_; intro wb bb4 qb sb; have HEB := Lib.hid ((HE8.out.below hba).sumStep ba4 qb); have bbc := (b8c.below hba b8c.lt).grown qb (by simpa using HGN4); have HWB := Lib.hid ((HW8.out.trans (hba.mono HWS)).grown qb (by omega) (fun k hk => by cases hk; exact hgw4)); obtain ⟨f91, f92⟩ := HGCE.out _ _ _ ((b8S.below hba b8S.lt).grown qb (by simp; omega)); have f7 := (b87.below hba b87.lt).grown qb (by simp; omega); have f0 : wb.cell? ⟨g7, 0, none⟩ = some (.int .i64 o.k) := (by rw [f7.cell]; rfl); clear sb f7)
          | (go_at_call 15; refine (state_c HEB.out).mono ?_; rintro e w9 ⟨rfl, rfl⟩))
        exact ⟨⟨i + 1, ⟨1, s.gr + 1, s.nx, dd⟩, dd, true, false, t, by omega, by go_num, (by have h1 := HBN.out.1; have h2 := HGR.out; exact Nat.le_trans h1 (by omega)), ⟨HBN.out.2.1, Or.elim HBN.out.2.2 (fun h => Int.le_trans h (by have := HNX.out; omega)) (fun h => Int.le_trans (Int.le_of_eq h) (by omega))⟩, HDL.out, ⟨rfl, rfl, rfl, by simp, by simp, by simp, by omega, fun _ => rfl⟩, HEB.out, bb4, bbc, HWB.out⟩, by simp [intOf]; omega⟩
      · rcases hres with ⟨hres, rfl⟩ | ⟨hres, rfl⟩
        · skip
          rw [hdr, htk] at b8S
          have q3 : (o.k == 3) = true := by simp [hk]
          have q5 : (o.k == 5) = false := by simp [hk]
          have q8 : (o.k == 8) = false := by simp [hk]
          obtain rfl : a = true := HHA.out.2 hs1
          have hbf : b = false := by
            cases b with
            | false => rfl
            | true => have := HHB.out.1 rfl; omega
          subst hbf
          have HSM := Lib.hid (show (fd == rr) = true by rw [HRR.out, ← HCH.out hs1]; rw [hres]; simp)
          obtain ⟨d91, d92⟩ := HGCE.out _ _ _ b8S
          have HS1 := Lib.hid hs1
          clear hdr htk hk hs1 hres
          go_wp2_with fail
          refine wp_region_rel (fun W W' => Below W.heap.size W W') (fun W => Below w8.heap.size w8 W)
            [Det (.pointer (some ⟨g7, 3, none⟩)), Det (.slice A' m' c'), Det (.slice (some ⟨gr, 0, none⟩) 32 32), Det (.bool true), Det (Value.bool false), Det (.bool true)]
            [[], [(0, some 58)], [], [(1, some 59), (2, some 60)], [], [(3, some 61)]]
            [[], [0], [], [0, 1, 2], [0, 1, 2, 3], [0, 1, 2, 3, 4]]
            [(0, some 58), (1, some 59), (2, some 60), (3, some 61), (4, some 5), (5, some 6)] (by kernel_rfl) (by kernel_rfl) (fun W W' h1 h2 => h1.trans (h2.mono h1.size)) ((Below.refl _ _).drew) ?_ ?_ ?_
          · exact (AllMono.cons Det.later (AllMono.cons Det.later (AllMono.cons Det.later (AllMono.cons Det.later (AllMono.cons Det.later (AllMono.cons Det.later AllMono.nil))))))
          · refine AllOb.cons ?_ (AllOb.cons ?_ (AllOb.cons ?_ (AllOb.cons ?_ (AllOb.cons ?_ (AllOb.cons ?_ (AllOb.nil))))))
            · intro uF W hC' hU aF hF
              have hC : Below w8.heap.size w8 W := hC'
              clear hC'
              simp only [puts] at hF
              subst hF
              go_wp2_with (fail)
              exact ⟨rfl, rfl, (Below.refl _ _), rfl⟩
            · intro uF W hC' hU aF hF
              have hC : Below w8.heap.size w8 W := hC'
              clear hC'
              have h58 : (Det (.pointer (some ⟨g7, 3, none⟩))) (uF 0) W := hU.1
              clear hU
              simp only [puts, Act.put, List.setIfInBounds_toArray, List.set_cons_zero, List.set_cons_succ] at hF
              generalize uF 0 = x58 at h58 hF
              obtain rfl : x58 = (.pointer (some ⟨g7, 3, none⟩)) := h58
              subst hF
              have d1 : W.cell? ⟨g7, 3, none⟩ = some (.slice A' m' c') := by rw [(b87.below hC b87.lt).cell]; rfl
              go_wp2_with (fail)
              exact ⟨rfl, rfl, (Below.refl _ _), rfl⟩
            · intro uF W hC' hU aF hF
              have hC : Below w8.heap.size w8 W := hC'
              clear hC'
              simp only [puts] at hF
              subst hF
              have hto := arr_off_run (P := Try.prog) (T := 34) Try.underlying34 size1 (by omega) gr 0
              go_wp2_with (fail)
              exact ⟨rfl, rfl, (Below.refl _ _), rfl⟩
            · intro uF W hC' hU aF hF
              have hC : Below w8.heap.size w8 W := hC'
              clear hC'
              have h59 : (Det (.slice A' m' c')) (uF 1) W := hU.1
              have h60 : (Det (.slice (some ⟨gr, 0, none⟩) 32 32)) (uF 2) W := hU.2.1
              clear hU
              simp only [puts, Act.put, List.setIfInBounds_toArray, List.set_cons_zero, List.set_cons_succ] at hF
              generalize uF 1 = x59 at h59 hF
              generalize uF 2 = x60 at h60 hF
              obtain rfl : x59 = (.slice A' m' c') := h59
              obtain rfl : x60 = (.slice (some ⟨gr, 0, none⟩) 32 32) := h60
              subst hF
              go_wp2_with ((go_at_call 28; refine (same_c (HD8.out.below hC) (sum_sl (b88.below hC b88.lt) HRL.out) true HSM.out).mono ?_; rintro e W1 ⟨rfl, rfl⟩))
              exact ⟨rfl, rfl, (Below.refl _ _), rfl⟩
            · intro uF W hC' hU aF hF
              have hC : Below w8.heap.size w8 W := hC'
              clear hC'
              simp only [puts] at hF
              subst hF
              go_wp2_with (fail)
              exact ⟨rfl, rfl, (Below.refl _ _), rfl⟩
            · intro uF W hC' hU aF hF
              have hC : Below w8.heap.size w8 W := hC'
              clear hC'
              have h61 : (Det (.bool true)) (uF 3) W := hU.1
              clear hU
              simp only [puts, Act.put, List.setIfInBounds_toArray, List.set_cons_zero, List.set_cons_succ] at hF
              generalize uF 3 = x61 at h61 hF
              obtain rfl : x61 = (.bool true) := h61
              subst hF
              go_wp2_with (fail)
              exact ⟨rfl, rfl, (Below.refl _ _), rfl⟩
          intro uF W9 hC' hU aF hF
          have hCW9 : Below w8.heap.size w8 W9 := hC'
          clear hC'
          have h5 : (Det (Value.bool false)) (uF 4) W9 := hU.2.2.2.2.1
          have h6 : (Det (.bool true)) (uF 5) W9 := hU.2.2.2.2.2.1
          clear hU
          simp only [puts, Act.put, List.setIfInBounds_toArray, List.set_cons_zero, List.set_cons_succ] at hF
          generalize uF 0 = x58 at hF
          generalize uF 1 = x59 at hF
          generalize uF 2 = x60 at hF
          generalize uF 3 = x61 at hF
          generalize uF 4 = x5 at h5 hF
          generalize uF 5 = x6 at h6 hF
          obtain rfl : x5 = (Value.bool false) := h5
          obtain rfl : x6 = (.bool true) := h6
          subst hF
          have hb9s := (b8S.below hCW9 b8S.lt)
          obtain ⟨f91, f92⟩ := HGCE.out _ _ _ hb9s
          have f7 := b87.below hCW9 b87.lt
          have f0 : W9.cell? ⟨g7, 0, none⟩ = some (.int .i64 o.k) := by rw [f7.cell]; rfl
          have HE9 := Lib.hid (HE8.out.below hCW9)
          have b94 := b84.below hCW9 b84.lt
          have b9c := b8c.below hCW9 b8c.lt
          have HW9 := Lib.hid (HW8.out.trans (hCW9.mono HWS))
          clear f7 hb9s
          go_wp2_with (first
            | (go_at_call 15; refine (state_c HE9.out).mono ?_; rintro e w9 ⟨rfl, rfl⟩)
            | (go_at_call 16; refine (next_c HE9.out 1 rfl).mono ?_; rintro e w9 ⟨rfl, rfl⟩))
          exact ⟨⟨i + 1, ⟨2, s.gr, 1, s.ch⟩, el, false, true, 0, by omega, by go_num, (by have h1 := HBN.out.1; have h2 := HGR.out; exact Nat.le_trans h1 (by omega)), ⟨(show (0 : Int) ≤ 1 by omega), (show (1 : Int) ≤ ((i + 1 : Nat) : Int) + 1 by omega)⟩, HEL.out, ⟨rfl, rfl, rfl, by simp, by simp, fun _ => by simp, by omega, by simp⟩, HE9.out, b94, b9c, HW9.out⟩, by simp [intOf]; omega⟩
        · skip
          rw [hdr, htk] at b8S
          have q3 : (o.k == 3) = true := by simp [hk]
          have q5 : (o.k == 5) = false := by simp [hk]
          have q8 : (o.k == 8) = false := by simp [hk]
          obtain rfl : a = true := HHA.out.2 hs1
          have hbf : b = false := by
            cases b with
            | false => rfl
            | true => have := HHB.out.1 rfl; omega
          subst hbf
          have HSM := Lib.hid (show (fd == rr) = false by rw [HRR.out, ← HCH.out hs1]; simpa using fun e => hres e.symm)
          obtain ⟨d91, d92⟩ := HGCE.out _ _ _ b8S
          have HS1 := Lib.hid hs1
          clear hdr htk hk hs1 hres
          go_wp2_with fail
          refine wp_region_rel (fun W W' => Below W.heap.size W W') (fun W => Below w8.heap.size w8 W)
            [Det (.pointer (some ⟨g7, 3, none⟩)), Det (.slice A' m' c'), Det (.slice (some ⟨gr, 0, none⟩) 32 32), Det (.bool false), Det (Value.bool false), Det (.bool false)]
            [[], [(0, some 58)], [], [(1, some 59), (2, some 60)], [], [(3, some 61)]]
            [[], [0], [], [0, 1, 2], [0, 1, 2, 3], [0, 1, 2, 3, 4]]
            [(0, some 58), (1, some 59), (2, some 60), (3, some 61), (4, some 5), (5, some 6)] (by kernel_rfl) (by kernel_rfl) (fun W W' h1 h2 => h1.trans (h2.mono h1.size)) ((Below.refl _ _).drew) ?_ ?_ ?_
          · exact (AllMono.cons Det.later (AllMono.cons Det.later (AllMono.cons Det.later (AllMono.cons Det.later (AllMono.cons Det.later (AllMono.cons Det.later AllMono.nil))))))
          · refine AllOb.cons ?_ (AllOb.cons ?_ (AllOb.cons ?_ (AllOb.cons ?_ (AllOb.cons ?_ (AllOb.cons ?_ (AllOb.nil))))))
            · intro uF W hC' hU aF hF
              have hC : Below w8.heap.size w8 W := hC'
              clear hC'
              simp only [puts] at hF
              subst hF
              go_wp2_with (fail)
              exact ⟨rfl, rfl, (Below.refl _ _), rfl⟩
            · intro uF W hC' hU aF hF
              have hC : Below w8.heap.size w8 W := hC'
              clear hC'
              have h58 : (Det (.pointer (some ⟨g7, 3, none⟩))) (uF 0) W := hU.1
              clear hU
              simp only [puts, Act.put, List.setIfInBounds_toArray, List.set_cons_zero, List.set_cons_succ] at hF
              generalize uF 0 = x58 at h58 hF
              obtain rfl : x58 = (.pointer (some ⟨g7, 3, none⟩)) := h58
              subst hF
              have d1 : W.cell? ⟨g7, 3, none⟩ = some (.slice A' m' c') := by rw [(b87.below hC b87.lt).cell]; rfl
              go_wp2_with (fail)
              exact ⟨rfl, rfl, (Below.refl _ _), rfl⟩
            · intro uF W hC' hU aF hF
              have hC : Below w8.heap.size w8 W := hC'
              clear hC'
              simp only [puts] at hF
              subst hF
              have hto := arr_off_run (P := Try.prog) (T := 34) Try.underlying34 size1 (by omega) gr 0
              go_wp2_with (fail)
              exact ⟨rfl, rfl, (Below.refl _ _), rfl⟩
            · intro uF W hC' hU aF hF
              have hC : Below w8.heap.size w8 W := hC'
              clear hC'
              have h59 : (Det (.slice A' m' c')) (uF 1) W := hU.1
              have h60 : (Det (.slice (some ⟨gr, 0, none⟩) 32 32)) (uF 2) W := hU.2.1
              clear hU
              simp only [puts, Act.put, List.setIfInBounds_toArray, List.set_cons_zero, List.set_cons_succ] at hF
              generalize uF 1 = x59 at h59 hF
              generalize uF 2 = x60 at h60 hF
              obtain rfl : x59 = (.slice A' m' c') := h59
              obtain rfl : x60 = (.slice (some ⟨gr, 0, none⟩) 32 32) := h60
              subst hF
              go_wp2_with ((go_at_call 28; refine (same_c (HD8.out.below hC) (sum_sl (b88.below hC b88.lt) HRL.out) false HSM.out).mono ?_; rintro e W1 ⟨rfl, rfl⟩))
              exact ⟨rfl, rfl, (Below.refl _ _), rfl⟩
            · intro uF W hC' hU aF hF
              have hC : Below w8.heap.size w8 W := hC'
              clear hC'
              simp only [puts] at hF
              subst hF
              go_wp2_with (fail)
              exact ⟨rfl, rfl, (Below.refl _ _), rfl⟩
            · intro uF W hC' hU aF hF
              have hC : Below w8.heap.size w8 W := hC'
              clear hC'
              have h61 : (Det (.bool false)) (uF 3) W := hU.1
              clear hU
              simp only [puts, Act.put, List.setIfInBounds_toArray, List.set_cons_zero, List.set_cons_succ] at hF
              generalize uF 3 = x61 at h61 hF
              obtain rfl : x61 = (.bool false) := h61
              subst hF
              go_wp2_with (fail)
              exact ⟨rfl, rfl, (Below.refl _ _), rfl⟩
          intro uF W9 hC' hU aF hF
          have hCW9 : Below w8.heap.size w8 W9 := hC'
          clear hC'
          have h5 : (Det (Value.bool false)) (uF 4) W9 := hU.2.2.2.2.1
          have h6 : (Det (.bool false)) (uF 5) W9 := hU.2.2.2.2.2.1
          clear hU
          simp only [puts, Act.put, List.setIfInBounds_toArray, List.set_cons_zero, List.set_cons_succ] at hF
          generalize uF 0 = x58 at hF
          generalize uF 1 = x59 at hF
          generalize uF 2 = x60 at hF
          generalize uF 3 = x61 at hF
          generalize uF 4 = x5 at h5 hF
          generalize uF 5 = x6 at h6 hF
          obtain rfl : x5 = (Value.bool false) := h5
          obtain rfl : x6 = (.bool false) := h6
          subst hF
          have hb9s := (b8S.below hCW9 b8S.lt)
          obtain ⟨f91, f92⟩ := HGCE.out _ _ _ hb9s
          have f7 := b87.below hCW9 b87.lt
          have f0 : W9.cell? ⟨g7, 0, none⟩ = some (.int .i64 o.k) := by rw [f7.cell]; rfl
          have HE9 := Lib.hid (HE8.out.below hCW9)
          have b94 := b84.below hCW9 b84.lt
          have b9c := b8c.below hCW9 b8c.lt
          have HW9 := Lib.hid (HW8.out.trans (hCW9.mono HWS))
          clear f7 hb9s
          go_wp2_with (first
            | (go_at_call 15; refine (state_c HE9.out).mono ?_; rintro e w9 ⟨rfl, rfl⟩)
            | (go_at_call 16; refine (next_c HE9.out 1 rfl).mono ?_; rintro e w9 ⟨rfl, rfl⟩))
          exact ⟨⟨i + 1, ⟨0, s.gr, s.nx, s.ch⟩, el, false, false, 0, by omega, by go_num, (by have h1 := HBN.out.1; have h2 := HGR.out; exact Nat.le_trans h1 (by omega)), ⟨HBN.out.2.1, Or.elim HBN.out.2.2 (fun h => Int.le_trans h (by have := HNX.out; omega)) (fun h => Int.le_trans (Int.le_of_eq h) (by omega))⟩, HEL.out, ⟨rfl, rfl, rfl, by simp, by simp, by simp, by omega, by simp⟩, HE9.out, b94, b9c, HW9.out⟩, by simp [intOf]; omega⟩
      · rw [hdr, htk] at b8S
        obtain ⟨d91, d92⟩ := HGCE.out _ _ _ b8S
        have q3 : (o.k == 3) = false := by simp [hk]
        have q5 : (o.k == 5) = false := by simp [hk]
        have q8 : (o.k == 8) = true := by simp [hk]
        clear hdr htk hk
        go_wp2_with (first
          | (go_at_call 15; refine (state_c HE8.out).mono ?_; rintro e w9 ⟨rfl, rfl⟩)
          | (go_at_call 16; refine (next_c HE8.out 0 rfl).mono ?_; rintro e w9 ⟨rfl, rfl⟩))
        exact ⟨⟨i + 1, ⟨0, s.gr, s.nx, s.ch⟩, el, false, false, t, by omega, by go_num, (by have h1 := HBN.out.1; have h2 := HGR.out; exact Nat.le_trans h1 (by omega)), ⟨HBN.out.2.1, Or.elim HBN.out.2.2 (fun h => Int.le_trans h (by have := HNX.out; omega)) (fun h => Int.le_trans (Int.le_of_eq h) (by omega))⟩, HEL.out, ⟨rfl, rfl, rfl, by simp, by simp, by simp, by omega, by simp⟩, HE8.out, b84, b8c, HW8.out⟩, by simp [intOf]; omega⟩
      · rw [hdr, htk] at b8S
        obtain ⟨d91, d92⟩ := HGCE.out _ _ _ b8S
        have q3 : (o.k == 3) = false := by simp [hk]
        have q5 : (o.k == 5) = true := by simp [hk]
        have q8 : (o.k == 8) = false := by simp [hk]
        have q5n : (o.k != 5) = false := by simp [hk]
        obtain rfl : b = true := HHB.out.2 hs2
        have hfn : fn = (t : Int) + 1 := by rw [hn]; exact HBT.out rfl
        have hne : ((t : Int) + 1 != (t : Int) + 1) = false := by simp
        have hne2 : ((t : Int) + 1 + 1 != (t : Int) + 1 + 1) = false := by simp
        rw [hfn] at e1
        have HNN := Lib.hid (show s.nx = (t : Int) + 1 from HBT.out rfl)
        have HS2 := Lib.hid hs2
        clear hdr htk hk hn hfn hs2
        go_wp2_with (first
          | (go_at_call 15; refine (state_c HE8.out).mono ?_; rintro e w9 ⟨rfl, rfl⟩)
          | (go_at_call 16; refine (next_c HE8.out ((t : Int) + 1 + 1) (by rw [if_pos rfl]; show s.nx + 1 = _; rw [HNN.out])).mono ?_; rintro e w9 ⟨rfl, rfl⟩))
        exact ⟨⟨i + 1, ⟨2, s.gr, s.nx + 1, s.ch⟩, el, a, true, (t + 1), by omega, by go_num, (by have h1 := HBN.out.1; have h2 := HGR.out; exact Nat.le_trans h1 (by omega)), ⟨HBN.out.2.1, Or.elim HBN.out.2.2 (fun h => Int.le_trans h (by have := HNX.out; omega)) (fun h => Int.le_trans (Int.le_of_eq h) (by omega))⟩, HEL.out, ⟨rfl, rfl, by go_num, by have h1 := HHA.out; rw [HS2.out] at h1; simpa using h1, by simp, fun _ => by show s.nx + 1 = _; rw [HNN.out]; omega, by omega, fun h => by simp at h⟩, HE8.out, b84, b8c, HW8.out⟩, by simp [intOf]; omega⟩
      · cases b with
        | true =>
          by_cases hk : o.k = 3
          · skip
            rw [hdr, htk] at b8S
            obtain ⟨d91, d92⟩ := HGCE.out _ _ _ b8S
            have q3 : (o.k == 3) = true := by simp [hk]
            have q5 : (o.k == 5) = false := by simp [hk]
            have q8 : (o.k == 8) = false := by simp [hk]
            obtain rfl : a = false := by
              cases a with
              | false => rfl
              | true => exact absurd (HHA.out.1 rfl) (hn3 hk)
            have HNN := Lib.hid (show s1.nx = (t : Int) + 1 from HBT.out rfl)
            have HS2 := Lib.hid (HHB.out.1 rfl)
            have s2 : (s1.st == 2) = true := by rw [HS2.out]; rfl
            have hne2 : ((t : Int) + 1 != (t : Int) + 1) = false := by simp
            clear hdr htk hn8 hn3 hn5 hk
            go_wp2_with (first
              | (go_at_call 15; refine (state_c HE8.out).mono ?_; rintro e w9 ⟨rfl, rfl⟩)
              | (go_at_call 16; refine (next_c HE8.out ((t : Int) + 1) (by rw [if_pos HS2.out]; exact HNN.out)).mono ?_; rintro e w9 ⟨rfl, rfl⟩))
            exact ⟨⟨i + 1, s1, el, false, true, t, by omega, by go_num, (by have h1 := HBN.out.1; have h2 := HGR.out; exact Nat.le_trans h1 (by omega)), ⟨HBN.out.2.1, Or.elim HBN.out.2.2 (fun h => Int.le_trans h (by have := HNX.out; omega)) (fun h => Int.le_trans (Int.le_of_eq h) (by omega))⟩, HEL.out, ⟨rfl, rfl, rfl, (by first | exact HHA.out | simpa using HHA.out), (by first | exact HHB.out | simpa using HHB.out), (by first | exact HBT.out | exact fun _ => HNN.out | simp), by omega, HCH.out⟩, HE8.out, b84, b8c, HW8.out⟩, by simp [intOf]; omega⟩
          by_cases hk : o.k = 5
          · skip
            rw [hdr, htk] at b8S
            obtain ⟨d91, d92⟩ := HGCE.out _ _ _ b8S
            have q3 : (o.k == 3) = false := by simp [hk]
            have q5 : (o.k == 5) = true := by simp [hk]
            have q8 : (o.k == 8) = false := by simp [hk]
            have HNN := Lib.hid (show s1.nx = (t : Int) + 1 from HBT.out rfl)
            have HS2 := Lib.hid (HHB.out.1 rfl)
            have s2 : (s1.st == 2) = true := by rw [HS2.out]; rfl
            have hne2 : ((t : Int) + 1 != (t : Int) + 1) = false := by simp
            have hnq : (fn == (t : Int) + 1) = false := by simpa using fun e => hn5 hk HS2.out (e.trans HNN.out.symm)
            clear hdr htk hn8 hn3 hn5 hk
            go_wp2_with (first
              | (go_at_call 15; refine (state_c HE8.out).mono ?_; rintro e w9 ⟨rfl, rfl⟩)
              | (go_at_call 16; refine (next_c HE8.out ((t : Int) + 1) (by rw [if_pos HS2.out]; exact HNN.out)).mono ?_; rintro e w9 ⟨rfl, rfl⟩))
            exact ⟨⟨i + 1, s1, el, a, true, t, by omega, by go_num, (by have h1 := HBN.out.1; have h2 := HGR.out; exact Nat.le_trans h1 (by omega)), ⟨HBN.out.2.1, Or.elim HBN.out.2.2 (fun h => Int.le_trans h (by have := HNX.out; omega)) (fun h => Int.le_trans (Int.le_of_eq h) (by omega))⟩, HEL.out, ⟨rfl, rfl, rfl, (by first | exact HHA.out | simpa using HHA.out), (by first | exact HHB.out | simpa using HHB.out), (by first | exact HBT.out | exact fun _ => HNN.out | simp), by omega, HCH.out⟩, HE8.out, b84, b8c, HW8.out⟩, by simp [intOf]; omega⟩
          have h3 : o.k ≠ 3 := by assumption
          have h5 : o.k ≠ 5 := by assumption
          rw [hdr, htk] at b8S
          obtain ⟨d91, d92⟩ := HGCE.out _ _ _ b8S
          have q3 : (o.k == 3) = false := by simpa using h3
          have q5 : (o.k == 5) = false := by simpa using h5
          have q8 : (o.k == 8) = false := by simpa using hn8
          have HNN := Lib.hid (show s1.nx = (t : Int) + 1 from HBT.out rfl)
          have HS2 := Lib.hid (HHB.out.1 rfl)
          have s2 : (s1.st == 2) = true := by rw [HS2.out]; rfl
          have hne2 : ((t : Int) + 1 != (t : Int) + 1) = false := by simp
          clear hdr htk hn8 hn3 hn5 h3 h5
          go_wp2_with (first
            | (go_at_call 15; refine (state_c HE8.out).mono ?_; rintro e w9 ⟨rfl, rfl⟩)
            | (go_at_call 16; refine (next_c HE8.out ((t : Int) + 1) (by rw [if_pos HS2.out]; exact HNN.out)).mono ?_; rintro e w9 ⟨rfl, rfl⟩))
          exact ⟨⟨i + 1, s1, el, a, true, t, by omega, by go_num, (by have h1 := HBN.out.1; have h2 := HGR.out; exact Nat.le_trans h1 (by omega)), ⟨HBN.out.2.1, Or.elim HBN.out.2.2 (fun h => Int.le_trans h (by have := HNX.out; omega)) (fun h => Int.le_trans (Int.le_of_eq h) (by omega))⟩, HEL.out, ⟨rfl, rfl, rfl, (by first | exact HHA.out | simpa using HHA.out), (by first | exact HHB.out | simpa using HHB.out), (by first | exact HBT.out | exact fun _ => HNN.out | simp), by omega, HCH.out⟩, HE8.out, b84, b8c, HW8.out⟩, by simp [intOf]; omega⟩
        | false =>
          by_cases hk : o.k = 3
          · skip
            rw [hdr, htk] at b8S
            obtain ⟨d91, d92⟩ := HGCE.out _ _ _ b8S
            have q3 : (o.k == 3) = true := by simp [hk]
            have q5 : (o.k == 5) = false := by simp [hk]
            have q8 : (o.k == 8) = false := by simp [hk]
            obtain rfl : a = false := by
              cases a with
              | false => rfl
              | true => exact absurd (HHA.out.1 rfl) (hn3 hk)
            have s2 : (s1.st == 2) = false := by
              cases hh : (s1.st == 2) with
              | false => rfl
              | true => exact absurd (HHB.out.2 (by simpa using hh)) (by simp)
            clear hdr htk hn8 hn3 hn5 hk
            go_wp2_with (first
              | (go_at_call 15; refine (state_c HE8.out).mono ?_; rintro e w9 ⟨rfl, rfl⟩)
              | (go_at_call 16; refine (next_c HE8.out _ rfl).mono ?_; rintro e w9 ⟨rfl, rfl⟩))
            exact ⟨⟨i + 1, s1, el, false, false, t, by omega, by go_num, (by have h1 := HBN.out.1; have h2 := HGR.out; exact Nat.le_trans h1 (by omega)), ⟨HBN.out.2.1, Or.elim HBN.out.2.2 (fun h => Int.le_trans h (by have := HNX.out; omega)) (fun h => Int.le_trans (Int.le_of_eq h) (by omega))⟩, HEL.out, ⟨rfl, rfl, rfl, (by first | exact HHA.out | simpa using HHA.out), (by first | exact HHB.out | simpa using HHB.out), (by first | exact HBT.out | exact fun _ => HNN.out | simp), by omega, HCH.out⟩, HE8.out, b84, b8c, HW8.out⟩, by simp [intOf]; omega⟩
          by_cases hk : o.k = 5
          · skip
            rw [hdr, htk] at b8S
            obtain ⟨d91, d92⟩ := HGCE.out _ _ _ b8S
            have q3 : (o.k == 3) = false := by simp [hk]
            have q5 : (o.k == 5) = true := by simp [hk]
            have q8 : (o.k == 8) = false := by simp [hk]
            have s2 : (s1.st == 2) = false := by
              cases hh : (s1.st == 2) with
              | false => rfl
              | true => exact absurd (HHB.out.2 (by simpa using hh)) (by simp)
            clear hdr htk hn8 hn3 hn5 hk
            go_wp2_with (first
              | (go_at_call 15; refine (state_c HE8.out).mono ?_; rintro e w9 ⟨rfl, rfl⟩)
              | (go_at_call 16; refine (next_c HE8.out _ rfl).mono ?_; rintro e w9 ⟨rfl, rfl⟩))
            exact ⟨⟨i + 1, s1, el, a, false, t, by omega, by go_num, (by have h1 := HBN.out.1; have h2 := HGR.out; exact Nat.le_trans h1 (by omega)), ⟨HBN.out.2.1, Or.elim HBN.out.2.2 (fun h => Int.le_trans h (by have := HNX.out; omega)) (fun h => Int.le_trans (Int.le_of_eq h) (by omega))⟩, HEL.out, ⟨rfl, rfl, rfl, (by first | exact HHA.out | simpa using HHA.out), (by first | exact HHB.out | simpa using HHB.out), (by first | exact HBT.out | exact fun _ => HNN.out | simp), by omega, HCH.out⟩, HE8.out, b84, b8c, HW8.out⟩, by simp [intOf]; omega⟩
          have h3 : o.k ≠ 3 := by assumption
          have h5 : o.k ≠ 5 := by assumption
          rw [hdr, htk] at b8S
          obtain ⟨d91, d92⟩ := HGCE.out _ _ _ b8S
          have q3 : (o.k == 3) = false := by simpa using h3
          have q5 : (o.k == 5) = false := by simpa using h5
          have q8 : (o.k == 8) = false := by simpa using hn8
          have s2 : (s1.st == 2) = false := by
            cases hh : (s1.st == 2) with
            | false => rfl
            | true => exact absurd (HHB.out.2 (by simpa using hh)) (by simp)
          clear hdr htk hn8 hn3 hn5 h3 h5
          go_wp2_with (first
            | (go_at_call 15; refine (state_c HE8.out).mono ?_; rintro e w9 ⟨rfl, rfl⟩)
            | (go_at_call 16; refine (next_c HE8.out _ rfl).mono ?_; rintro e w9 ⟨rfl, rfl⟩))
          exact ⟨⟨i + 1, s1, el, a, false, t, by omega, by go_num, (by have h1 := HBN.out.1; have h2 := HGR.out; exact Nat.le_trans h1 (by omega)), ⟨HBN.out.2.1, Or.elim HBN.out.2.2 (fun h => Int.le_trans h (by have := HNX.out; omega)) (fun h => Int.le_trans (Int.le_of_eq h) (by omega))⟩, HEL.out, ⟨rfl, rfl, rfl, (by first | exact HHA.out | simpa using HHA.out), (by first | exact HHB.out | simpa using HHB.out), (by first | exact HBT.out | exact fun _ => HNN.out | simp), by omega, HCH.out⟩, HE8.out, b84, b8c, HW8.out⟩, by simp [intOf]; omega⟩
    · obtain rfl : i = n := by omega
      have hil : ¬ (i : Int) < (i : Int) := by omega
      have HW := Lib.hid hw
      clear hse hw hel hnx hgr hb4r hbc ha hb hbt hch
      go_wp2_with fail
      go_ret
      exact ⟨rfl, HW.out⟩
end Go.Proofs.Ytiadfbcdopfibaa.loginIn

