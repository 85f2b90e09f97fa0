/-
  DigestWords: what the words of a piece are, and what they hang on.
-/
import Derived.Test.YtbphoilfiahnpaaShaW
import Derived.Test.YtbphoilfiahnpaaDigestSchedule
namespace Go.Proofs.Ytbphoilfiahnpaa.digestWords
open Go.RowKit Go.Proofs.Ytbphoilfiahnpaa.digestSchedule
set_option linter.unusedVariables false
set_option linter.unusedSimpArgs false
set_option maxRecDepth 100000

theorem wrap_u64_nn (x : Int) : 0 ≤ IntKind.u64.wrap x := by rw [wrap_u64]; omega

theorem b8_up (d : UInt8) : b8 (d + 1) = .int .u8 (((d.toNat : Int) + 1) % 256) := by
  rw [b8, UInt8.toNat_add]; rfl
theorem bump_blk {w : World} {g k : Nat} {t : TypeId} {p : List UInt8} {d : UInt8} (h : Blk w g t (arr8 p)) (hd : p[4 * k + 3]? = some d) : Blk (w.setCell ⟨g, 4 * k + 3, none⟩ (.int .u8 (((d.toNat : Int) + 1) % 256))) g t (arr8 (bump p k)) := by
  have := h.set_ (4 * k + 3) (.int .u8 (((d.toNat : Int) + 1) % 256))
  have e : (arr8 p).setIfInBounds (4 * k + 3) (.int .u8 (((d.toNat : Int) + 1) % 256)) = arr8 (bump p k) := by
    rw [bump, hd, arr8, arr8, List.setIfInBounds_toArray, ← b8_up, ← List.map_set]; rfl
  rwa [e] at this
theorem ne_toNat {x y : UInt32} (h : x ≠ y) : ((x.toNat : Int) != (y.toNat : Int)) = true := by
  rw [bne_iff_ne]; intro e; exact h (UInt32.toNat_inj.1 (by omega))
theorem idx_one (w : World) : (Instr.index 24 (.agg (arr32 (sched one))) (.int .i64 0)).run Try.prog w = .ok (.int .u32 1) w := by kernel_rfl
theorem or_bytes (a b c d : UInt8) (x : UInt32) (h : x.toNat = ((a.toNat * 256 + b.toNat) * 256 + c.toNat) * 256 + d.toNat) :
    bits .or .u32 (bits .or .u32 (bits .or .u32 ((a.toNat : Int) * 16777216) ((b.toNat : Int) * 65536)) ((c.toNat : Int) * 256)) (d.toNat : Int) = (x.toNat : Int) := by
  have h1 := UInt8.toNat_lt a; have h2 := UInt8.toNat_lt b; have h3 := UInt8.toNat_lt c; have h4 := UInt8.toNat_lt d
  have e := or_chain a.toNat b.toNat c.toNat d.toNat h1 h2 h3 h4
  have f1 : a.toNat * 16777216 ||| b.toNat * 65536 < 4294967296 := Nat.or_lt_two_pow (n := 32) (by omega) (by omega)
  have f2 : (a.toNat * 16777216 ||| b.toNat * 65536) ||| c.toNat * 256 < 4294967296 := Nat.or_lt_two_pow (n := 32) f1 (by omega)
  rw [show (a.toNat : Int) * 16777216 = ((a.toNat * 16777216 : Nat) : Int) from by omega, show (b.toNat : Int) * 65536 = ((b.toNat * 65536 : Nat) : Int) from by omega, show (c.toNat : Int) * 256 = ((c.toNat * 256 : Nat) : Int) from by omega,
    u32_or_nat _ _ (by omega) (by omega), u32_or_nat _ _ f1 (by omega), u32_or_nat _ _ f2 (by omega), e, h]

set_option maxHeartbeats 2000000 in
theorem walk (A0 : Option Addr) (n0 c0 : Nat) (bs0 : List UInt8) (a1 : Int) (w : World) (w0 : SlB w w.heap.size A0 n0 c0 bs0) (y0 : c0 ≤ 140737488351232) (w1 : (Lit.int .i64 a1).wf = true) :
    Calls Try.prog 6 #[.slice A0 n0 c0, .int .i64 a1] w fun e w' => e = .returned (.bool true) ∧ Below w.heap.size w w' := by
  have hnm : n0 ≤ 9223372036854775807 := w0.mx
  have HL := Lib.hid w0.len
  have b1 := Blk.new w 34 (arr8 (z8 64))
  have hall := arr_all_run (P := Try.prog) (T := 34) Try.underlying34 size1 (by omega) w.heap.size
  obtain ⟨p, hp⟩ : ∃ p, p = piece8 bs0 := ⟨_, rfl⟩
  have hlp : p.length = 64 := by rw [hp]; exact len_piece8 _
  have HP := Lib.hid hp
  have HLP := Lib.hid hlp
  clear hp hlp
  go_enter Try.func6, Try.ntmps6
  go_wp2_with (first
    | ((with_reducible show wpList _ _ _ (Oper.mk _ (Op.alloc 34) _ _ _ _ :: _) _ _); refine wpList_alloc_agg rfl 34 rfl (arr8 (z8 64)) zero34 ?_)
    | ((with_reducible show wpList _ _ _ (Oper.mk (some 12) (Op.build 34 _) _ _ _ _ :: _) _ _); refine wpList_build rfl 34 _ rfl #[] (by simp only [List.map_toArray, List.map_nil]) _ (build34 _) ?_)
    | ((with_reducible show wpList _ _ _ (Oper.mk none (Op.store 34 _ _) _ _ _ _ :: _) _ _); refine wpList_store8 rfl 34 (.tmp 5) (.tmp 12) rfl w.heap.size rfl (z8 64) rfl agg34 (len_z8 _) _ _ b1 (by rw [size_arr8, len_z8]) ?_; intro w1 hb1 hg1 hs1; have hw1 : Below w.heap.size w w1 := ((Below.refl _ _).alloc (Nat.le_refl _) _).grown hg1 (by simp) (fun k hk => by cases hk; exact Nat.le_refl _))
    | ((with_reducible show wpList _ _ _ (Oper.mk (some 15) (Op.call _) _ _ _ _ :: _) _ _); refine wpList_copy_blk rfl (.tmp 13) (.tmp 14) 31 rfl Try.underlying31 info8 rfl hb1 rfl (w0.below hw1) (by rw [size_arr8, len_z8]; exact Nat.le_trans (by simp; exact Nat.min_le_right _ _) (Nat.le_refl 64)) (b8_one _) ?_; intro w2 hb2 hg2 hs2; rw [splice_piece HL.out, ← HP.out] at hb2; have hw2 : Below w.heap.size w w2 := hw1.grown hg2 hw1.size (fun k hk => by cases hk; exact Nat.le_refl _))
    | ((with_reducible show wpList _ _ _ (Oper.mk _ (Op.load 34 _) _ _ _ _ :: _) _ _); refine wpList_load_whole (by rfl) 34 (.tmp 5) rfl w.heap.size rfl (arr8 p) agg34 (by rw [size_arr8, HLP.out]) 34 hb2 ?_)
    | (go_at_call 28; refine (schedule_c p HLP.out _).mono ?_; rintro e w3 ⟨rfl, hb3⟩; have hw3 : Below w.heap.size w w3 := hw2.trans (hb3.mono hw2.size); have b3 := Blk.new w3 24 (arr32 (z32 64)); have C1 : Blk w3 w.heap.size 34 (arr8 p) := Blk.below hb2 hb3 hb2.lt)
    | ((with_reducible show wpList _ _ _ (Oper.mk _ (Op.alloc 24) _ _ _ _ :: _) _ _); refine wpList_alloc_agg rfl 24 rfl (arr32 (z32 64)) zero24 ?_; (try rw [World.size_alloc]))
    | ((with_reducible show wpList _ _ _ (Oper.mk none (Op.store 24 _ _) _ _ _ _ :: _) _ _); refine wpList_store32 rfl 24 (.tmp 6) (.tmp 17) rfl w3.heap.size rfl (sched p) rfl agg24 (len_sched _) _ _ b3 (by rw [size_arr32, len_z32]) ?_; intro w4 hb4 hg4 hs4; have hw4 : Below w.heap.size w w4 := (hw3.alloc hw3.size _).grown hg4 (by simp only [World.size_alloc]; exact Nat.le_trans hw3.size (Nat.le_succ _)) (fun k hk => by cases hk; exact hw3.size); have D1 : Blk w4 w.heap.size 34 (arr8 p) := (C1.alloc _).grown hg4 (fun e => by have h1 := C1.lt; have h2 := Option.some.inj e; omega)))
  have h46 : w3.heap.size < w4.heap.size := hb4.lt
  obtain ⟨g5, hg5⟩ : ∃ g, g = w.heap.size := ⟨_, rfl⟩
  obtain ⟨g6, hg6⟩ : ∃ g, g = w3.heap.size := ⟨_, rfl⟩
  rw [← hg5, ← hg6]
  rw [← hg5] at D1
  rw [← hg6] at hb4
  have h56 : g5 < g6 := by have := C1.lt; omega
  clear hall hg5 hg6 hb2 hb3 b3 C1 hw1 hw2 hw3
  go_loopw [18] (fun v18 wr => ∃ k : Nat, k ≤ 16 ∧ v18 = .int .i64 (k : Int) ∧ Blk wr g5 34 (arr8 p) ∧ Blk wr g6 24 (arr32 (sched p)) ∧ Below w.heap.size w wr) (fun v18 _ => 16 - (intOf v18).toNat)
  case atStart => exact ⟨0, by omega, rfl, D1, hb4, hw4⟩
  case round =>
    clear D1 hb4 hw4
    obtain ⟨k, hk, rfl, B5, B6, hb⟩ := hrel
    by_cases hlt : k < 16
    · have hli : (k : Int) < 16 := by omega
      obtain ⟨a, ha⟩ := get_some (p := p) (4 * k) (by rw [HLP.out]; omega)
      obtain ⟨b, hb'⟩ := get_some (p := p) (4 * k + 1) (by rw [HLP.out]; omega)
      obtain ⟨c, hc⟩ := get_some (p := p) (4 * k + 2) (by rw [HLP.out]; omega)
      obtain ⟨d, hd⟩ := get_some (p := p) (4 * k + 3) (by rw [HLP.out]; omega)
      have dw : wr.cell? ⟨g6, k, none⟩ = some (.int .u32 ((wordAt p k).toNat : Int)) := by rw [B6.cell, arr32_get, sched_lo p k hlt]; rfl
      have da : wr.cell? ⟨g5, 4 * k, none⟩ = some (.int .u8 (a.toNat : Int)) := by rw [B5.cell, arr8_get, ha]; rfl
      have db : wr.cell? ⟨g5, 4 * k + 1, none⟩ = some (.int .u8 (b.toNat : Int)) := by rw [B5.cell, arr8_get, hb']; rfl
      have dc : wr.cell? ⟨g5, 4 * k + 2, none⟩ = some (.int .u8 (c.toNat : Int)) := by rw [B5.cell, arr8_get, hc]; rfl
      have dd : wr.cell? ⟨g5, 4 * k + 3, none⟩ = some (.int .u8 (d.toNat : Int)) := by rw [B5.cell, arr8_get, hd]; rfl
      have hw := Lib.hid (word4 ha hb' hc hd)
      have ha8 := UInt8.toNat_lt a
      have hb8 := UInt8.toNat_lt b
      have hc8 := UInt8.toNat_lt c
      have hd8 := UInt8.toNat_lt d
      have H5 := Lib.hid B5
      have H6 := Lib.hid B6
      have HB := Lib.hid hb
      have hor : bits .or .u32 (bits .or .u32 (bits .or .u32 ((a.toNat : Int) * 16777216) ((b.toNat : Int) * 65536)) ((c.toNat : Int) * 256)) (d.toNat : Int) = ((wordAt p k).toNat : Int) := or_bytes a b c d _ hw.out
      clear ha hb' hc hd B5 B6 hb ha8 hb8 hc8 hd8
      have ha8 := UInt8.toNat_lt a
      have hb8 := UInt8.toNat_lt b
      have hc8 := UInt8.toNat_lt c
      have hd8 := UInt8.toNat_lt d
      go_wp2_with fail
      go_quiet (fail)
      go_wp2_with fail
      refine ⟨⟨k + 1, by omega, by go_num, H5.out, H6.out, below_drewN HB.out _⟩, by simp [intOf]; omega⟩
    · obtain rfl : k = 16 := by omega
      have hli : ¬ ((16 : Nat) : Int) < 16 := by omega
      obtain ⟨u, hu⟩ : ∃ u : Nat, IntKind.u64.wrap a1 = (u : Int) := ⟨(IntKind.u64.wrap a1).toNat, by rw [Int.toNat_of_nonneg (wrap_u64_nn _)]⟩
      obtain ⟨k, hkk⟩ : ∃ kk : Nat, kk = u % 16 := ⟨_, rfl⟩
      have htm : ((u : Int)).tmod 16 = (k : Int) := by rw [Int.tmod_eq_emod_of_nonneg (by omega)]; omega
      have hmd : (u : Int) % 16 = (k : Int) := by omega
      have hk16 : k < 16 := by omega
      have hki : (k : Int) < 16 := by omega
      have hk0 : (0 : Int) ≤ (k : Int) := by omega
      clear hkk hk hlt
      have hz := hb.size
      obtain ⟨d, hd⟩ := get_some (p := p) (4 * k + 3) (by rw [HLP.out]; omega)
      have b9 := Blk.new wr 34 (arr8 (z8 64))
      have H5 := Lib.hid B5
      have H6 := Lib.hid B6
      have HB := Lib.hid hb
      clear hb
      go_wp2_with (first
        | ((with_reducible show wpList _ _ _ (Oper.mk _ (Op.load 34 (.tmp 5)) _ _ _ _ :: _) _ _); refine wpList_load_whole (by rfl) 34 (.tmp 5) rfl g5 rfl (arr8 p) agg34 (by rw [size_arr8, HLP.out]) 34 B5 ?_)
        | ((with_reducible show wpList _ _ _ (Oper.mk _ (Op.alloc 34) _ _ _ _ :: _) _ _); refine wpList_alloc_agg rfl 34 rfl (arr8 (z8 64)) zero34 ?_; (try rw [World.size_alloc]))
        | ((with_reducible show wpList _ _ _ (Oper.mk none (Op.store 34 _ _) _ _ _ _ :: _) _ _); refine wpList_store8 rfl 34 (.tmp 9) (.tmp 59) rfl wr.heap.size rfl p rfl agg34 HLP.out _ _ b9 (by rw [size_arr8, len_z8]) ?_; intro w5 hb5 hg5 hs5; have e9 : w5.cell? ⟨wr.heap.size, 4 * k + 3, none⟩ = some (.int .u8 (d.toNat : Int)) := (by rw [hb5.cell, arr8_get, hd]; rfl); have f9 := hb5.frozen (4 * k + 3); have Q9 := bump_blk (k := k) hb5 hd; have h05 : Below w.heap.size w w5 := (HB.out.alloc hz _).grown hg5 (by simp; omega) (fun k hk => by cases hk; exact hz); have h06 := h05.setCell (show w.heap.size ≤ (⟨wr.heap.size, 4 * k + 3, none⟩ : Addr).block from hz) (.int .u8 (((d.toNat : Int) + 1) % 256)); have B56 : Blk (w5.setCell ⟨wr.heap.size, 4 * k + 3, none⟩ (.int .u8 (((d.toNat : Int) + 1) % 256))) g6 24 (arr32 (sched p)) := (((B6.alloc _).grown hg5 (by have := B6.lt; simp; omega)).far (by have := B6.lt; show g6 ≠ wr.heap.size; omega) _))
        | ((with_reducible show wpList _ _ _ (Oper.mk _ (Op.load 34 (.tmp 9)) _ _ _ _ :: _) _ _); refine wpList_load_whole (by rfl) 34 (.tmp 9) rfl wr.heap.size rfl (arr8 (bump p k)) agg34 (by rw [size_arr8, len_bump, HLP.out]) 34 Q9 ?_)
        | (go_at_call 28; refine (schedule_c (bump p k) (by rw [len_bump, HLP.out]) _).mono ?_; rintro e w7 ⟨rfl, hb7⟩; have h07 := h06.trans (hb7.mono h06.size); have b10 := Blk.new w7 24 (arr32 (z32 64)); have B67 := B56.below hb7 B56.lt)
        | ((with_reducible show wpList _ _ _ (Oper.mk _ (Op.alloc 24) _ _ _ _ :: _) _ _); refine wpList_alloc_agg rfl 24 rfl (arr32 (z32 64)) zero24 ?_; (try rw [World.size_alloc]))
        | ((with_reducible show wpList _ _ _ (Oper.mk none (Op.store 24 _ _) _ _ _ _ :: _) _ _); refine wpList_store32 rfl 24 (.tmp 10) (.tmp 68) rfl w7.heap.size rfl (sched (bump p k)) rfl agg24 (len_sched _) _ _ b10 (by rw [size_arr32, len_z32]) ?_; intro w8 hb8 hg8 hs8; have h08 : Below w.heap.size w w8 := (h07.alloc h07.size _).grown hg8 (by simp; have := h07.size; omega) (fun k hk => by cases hk; exact h07.size); have B68 : Blk w8 g6 24 (arr32 (sched p)) := (B67.alloc _).grown hg8 (by have := B67.lt; simp; omega)))
      obtain ⟨ga, hga⟩ : ∃ g, g = w7.heap.size := ⟨_, rfl⟩
      rw [← hga]
      rw [← hga] at hb8
      have hne10 : ga ≠ g6 := by have := B67.lt; omega
      clear hga b10 b9 B67 B56 Q9 e9 f9 hs8 hg8 hs5 hg5 h06 h07 h05 hb5 hb7 B5 B6 hd hu htm hmd
      go_loopw [69] (fun v69 wx => ∃ n : Nat, n ≤ 16 ∧ v69 = .int .i64 (n : Int) ∧ Blk wx g6 24 (arr32 (sched p)) ∧ Blk wx ga 24 (arr32 (sched (bump p k))) ∧ Below w.heap.size w wx) (fun v69 _ => 16 - (intOf v69).toNat)
      case atStart => exact ⟨0, by omega, rfl, B68, hb8, h08⟩
      case round =>
        clear B68 hb8 h08
        obtain ⟨n, hn, rfl, B6, Ba, hb⟩ := hrel
        by_cases hlt : n < 16
        · have hli : (n : Int) < 16 := by omega
          have dw : ‹World›.cell? ⟨g6, n, none⟩ = some (.int .u32 ((wordAt p n).toNat : Int)) := by rw [B6.cell, arr32_get, sched_lo p n hlt]; rfl
          have dv : ‹World›.cell? ⟨ga, n, none⟩ = some (.int .u32 ((wordAt (bump p k) n).toNat : Int)) := by rw [Ba.cell, arr32_get, sched_lo _ n hlt]; rfl
          have H6 := Lib.hid B6
          have HA := Lib.hid Ba
          have HB := Lib.hid hb
          by_cases hnk : n = k
          · subst hnk
            have hx : (((wordAt (bump p n) n).toNat : Int) != ((wordAt p n).toNat : Int)) = true := ne_toNat (word_bump_self p HLP.out n hlt).1
            clear B6 Ba hb
            go_wp2_with fail
            go_quiet (fail)
            go_wp2_with fail
            refine ⟨⟨n + 1, by omega, by go_num, H6.out, HA.out, below_drewN HB.out _⟩, by simp [intOf]; omega⟩
          · have hnk' : ¬ (n : Int) = (k : Int) := by omega
            rw [word_bump_ne p HLP.out k n hnk] at dv
            clear B6 Ba hb
            go_wp2_with fail
            go_quiet (fail)
            go_wp2_with fail
            refine ⟨⟨n + 1, by omega, by go_num, H6.out, HA.out, below_drewN HB.out _⟩, by simp [intOf]; omega⟩
        · obtain rfl : n = 16 := by omega
          have hli : ¬ ((16 : Nat) : Int) < 16 := by omega
          have hz := hb.size
          have H6 := Lib.hid B6
          have HA := Lib.hid Ba
          have HB := Lib.hid hb
          have hidx := idx_one
          clear B6 Ba hb
          have hch := w16_bump p HLP.out k hk16
          by_cases hx : k = 0 ∨ k = 1 ∨ k = 9 ∨ k = 14
          · have hx2 : ((w16 (bump p k)).toNat : Int) != ((w16 p).toNat : Int) := ne_toNat (fun e => hch.1 e hx)
            clear hch
            rcases hx with rfl | rfl | rfl | rfl
            all_goals
              have hx3 := hx2
              clear hx2
              go_wp2_with (first
                | ((with_reducible show wpList _ _ _ (Oper.mk _ (Op.build 34 _) _ _ _ _ :: _) _ _); refine wpList_build rfl 34 _ rfl #[(3, .int .u8 1)] (by simp only [List.map_toArray, List.map_cons, List.map_nil]; rfl) _ (build34one _) ?_)
                | (go_at_call 28; refine (schedule_c one len_one _).mono ?_; rintro e wy ⟨rfl, hby⟩; have e6 : wy.cell? ⟨g6, 16, none⟩ = some (.int .u32 ((w16 p).toNat : Int)) := (by rw [(Blk.below H6.out hby H6.out.lt).cell, arr32_get, sched_16]; rfl); have ea : wy.cell? ⟨ga, 16, none⟩ = some (.int .u32 ((w16 (bump p _)).toNat : Int)) := (by rw [(Blk.below HA.out hby HA.out.lt).cell, arr32_get, sched_16]; rfl); have hfin := HB.out.trans (hby.mono hz)))
              go_ret
              exact ⟨rfl, hfin⟩
          · have hx4 : w16 (bump p k) = w16 p := hch.2 hx
            have n0' : ¬ (k : Int) = 0 := by omega
            have n1' : ¬ (k : Int) = 1 := by omega
            have n9' : ¬ (k : Int) = 9 := by omega
            have n14' : ¬ (k : Int) = 14 := by omega
            have HX := Lib.hid hx4
            clear hch hx hx4
            go_wp2_with (first
              | ((with_reducible show wpList _ _ _ (Oper.mk _ (Op.build 34 _) _ _ _ _ :: _) _ _); refine wpList_build rfl 34 _ rfl #[(3, .int .u8 1)] (by simp only [List.map_toArray, List.map_cons, List.map_nil]; rfl) _ (build34one _) ?_)
              | (go_at_call 28; refine (schedule_c one len_one _).mono ?_; rintro e wy ⟨rfl, hby⟩; have e6 : wy.cell? ⟨g6, 16, none⟩ = some (.int .u32 ((w16 p).toNat : Int)) := (by rw [(Blk.below H6.out hby H6.out.lt).cell, arr32_get, sched_16]; rfl); have ea : wy.cell? ⟨ga, 16, none⟩ = some (.int .u32 ((w16 p).toNat : Int)) := (by rw [(Blk.below HA.out hby HA.out.lt).cell, arr32_get, sched_16, HX.out]; rfl); have hfin := HB.out.trans (hby.mono hz)))
            go_ret
            refine ⟨?_, hfin⟩
            simp
            omega
end Go.Proofs.Ytbphoilfiahnpaa.digestWords
