/-
  digest.Schedule: a piece's words.
-/
import Derived.Test.YtbphoilfiahnpaaSha
import Derived.StillTailTactics
namespace Go.Proofs.Ytbphoilfiahnpaa
open Go.RowKit
set_option linter.unusedVariables false
set_option maxRecDepth 100000

theorem agg24 : AggT Try.prog 24 64 := ⟨⟨_, Try.underlying24, rfl⟩, by kernel_rfl⟩
theorem zero24 : (Try.prog.info? 24).bind (·.zero) = some (.agg (arr32 (z32 64))) := by kernel_rfl

theorem still_of {P : Program} {f : FuncId} {args : Array Value} {w : World} {v : Value} (h : Calls P f args w fun e w' => e = .returned v ∧ w = w') : Calls P f args w fun e w' => e = .returned v ∧ w' = w :=
  h.mono fun _ _ ⟨a, b⟩ => ⟨a, b.symm⟩
theorem sum4 (a b c d : UInt32) : ((a.toNat : Int) + (b.toNat : Int) + (c.toNat : Int) + (d.toNat : Int)) % 4294967296 = ((a + b + c + d).toNat : Int) := by
  rw [UInt32.toNat_add, UInt32.toNat_add, UInt32.toNat_add]; omega
theorem size1 (w : World) : (sizeOf 5).run Try.prog w = .ok 1 w := by kernel_rfl

set_option maxHeartbeats 1000000 in
theorem schedule_c (ps : List UInt8) (hl : ps.length = 64) (w : World) :
    Calls Try.prog 28 #[.agg (arr8 ps)] w fun e w' => e = .returned (.agg (arr32 (sched ps))) ∧ Below w.heap.size w w' := by
  have HL := Lib.hid hl
  have b1 := Blk.new w 34 (arr8 ps)
  have b2 := Blk.new (w.alloc (.cells (arr8 ps) 34)) 24 (arr32 (z32 64))
  have b3 := Blk.new ((w.alloc (.cells (arr8 ps) 34)).alloc (.cells (arr32 (z32 64)) 24)) 24 (arr32 (z32 64))
  simp only [World.size_alloc] at b2 b3
  have hb : Below w.heap.size w (((w.alloc (.cells (arr8 ps) 34)).alloc (.cells (arr32 (z32 64)) 24)).alloc (.cells (arr32 (z32 64)) 24)) := (((Below.refl _ _).alloc (Nat.le_refl _) _).alloc (by simp) _).alloc (by simp; omega) _
  have B1 := (b1.alloc (.cells (arr32 (z32 64)) 24)).alloc (.cells (arr32 (z32 64)) 24)
  have B2 := b2.alloc (.cells (arr32 (z32 64)) 24)
  clear hl b1 b2
  go_enter Try.func28, Try.ntmps28
  go_wp2_with (first
    | ((with_reducible show wpList _ _ _ (Oper.mk _ (Op.alloc 24) _ _ _ _ :: _) _ _); refine wpList_alloc_agg rfl 24 rfl (arr32 (z32 64)) zero24 ?_))
  obtain ⟨w3, hw3⟩ : ∃ w3 : World, w3 = (((w.alloc (.cells (arr8 ps) 34)).alloc (.cells (arr32 (z32 64)) 24)).alloc (.cells (arr32 (z32 64)) 24)) := ⟨_, rfl⟩
  rw [← hw3] at hb B1 B2 b3 ⊢
  clear hw3
  go_loopw [7] (fun i wr => ∃ k : Nat, k ≤ 64 ∧ i = .int .i64 k ∧ Blk wr w.heap.size 34 (arr8 ps) ∧ Blk wr (w.heap.size + 1) 24 (arr32 (z32 64)) ∧
      Blk wr (w.heap.size + 2) 24 (arr32 (schedTo ps k ++ z32 (64 - k))) ∧ Below w.heap.size w wr) (fun i _ => 64 - (intOf i).toNat)
  case atStart => exact ⟨0, by omega, rfl, B1, B2, b3, hb⟩
  case round =>
    clear B1 B2 b3 hb
    obtain ⟨k, hk, rfl, B1, B2, B3, hb⟩ := hrel
    have hz := hb.size
    have hls := Lib.hid (len_schedTo ps k)
    by_cases hlt : k < 64
    · by_cases h16 : k < 16
      · have hs1 := Lib.hid (SlB.ofBlk B1 (lo := 4 * k) (hi := 4 * k + 4) (c := 64 - 4 * k) (by omega) (by rw [HL.out]; omega) (by omega) (by simp only [maxLen]; omega) (Nat.lt_succ_self _))
        have hlen : ((ps.drop (4 * k)).take 4).length ≤ 4 := List.length_take_le _ _
        have hwc := Lib.hid (word_conv _ hlen)
        have hf := B3.frozen k
        have hcut := arr_cut_run (P := Try.prog) (T := 34) Try.underlying34 size1 w.heap.size (4 * k) (4 * k + 4) 4 (64 - 4 * k) (4 * (k : Int)) (4 * (k : Int) + 4) (by omega) (by omega) (by omega) (by omega) (by omega) (by omega) rfl
        have hc : wr.cell? ⟨w.heap.size + 2, k, none⟩ = some (.int .u32 0) := by
          rw [B3.cell, arr32_get, List.getElem?_append_right (by rw [hls.out]; exact Nat.le_refl _), hls.out, Nat.sub_self, z32, List.getElem?_replicate, if_pos (by omega)]
          rfl
        have HB1 := Lib.hid B1
        have HB2 := Lib.hid B2
        have HB3 := Lib.hid B3
        have HB := Lib.hid hb
        clear B1 B2 B3 hb hlen
        go_wp2_with fail
        refine (big_c (show SlB wr _ _ 4 (64 - 4 * k) _ from (by have := hs1.out; rwa [show 4 * k + 4 - 4 * k = 4 from by omega] at this)) (by omega)).mono ?_
        rintro e w4 ⟨rfl, rfl⟩
        go_wp2_with fail
        go_roundw
        case rel =>
          have e : u64v (bigN (List.take 4 (List.drop (4 * k) ps))) % 4294967296 = ((nextW ps (schedTo ps k) k).toNat : Int) := by
            rw [nextW, if_pos h16, wordAt, ← hwc.out, IntKind.wrap_u32']
          rw [e]
          refine ⟨k + 1, by omega, by go_num, HB1.out.far (by simp; omega) _, HB2.out.far (by simp) _, ?_, HB.out.setCell (by simp; omega) _⟩
          show Blk _ _ _ (arr32 ((schedTo ps k ++ [nextW ps (schedTo ps k) k]) ++ z32 (64 - (k + 1))))
          rw [← arr32_next _ 64 k hls.out hlt]
          exact HB3.out.set_ k _
        case measure => simp [intOf]; omega
      · have h16' : (16 : Int) ≤ (k : Int) := by omega
        have get : ∀ j, j < k → wr.cell? ⟨w.heap.size + 2, j, none⟩ = some (.int .u32 (((schedTo ps k)[j]?.getD 0).toNat : Int)) := fun j hj => by
          rw [B3.cell]; exact arr32_at _ j (by rw [hls.out]; exact hj) _
        have c15 := get (k - 15) (by omega)
        have c2 := get (k - 2) (by omega)
        have c16 := get (k - 16) (by omega)
        have c7 := get (k - 7) (by omega)
        have hf := B3.frozen k
        have hc : wr.cell? ⟨w.heap.size + 2, k, none⟩ = some (.int .u32 0) := by
          rw [B3.cell, arr32_get, List.getElem?_append_right (by rw [hls.out]; exact Nat.le_refl _), hls.out, Nat.sub_self, z32, List.getElem?_replicate, if_pos (by omega)]
          rfl
        have hnx : nextW ps (schedTo ps k) k = (schedTo ps k)[k - 16]?.getD 0 + (schedTo ps k)[k - 7]?.getD 0 + sig0 ((schedTo ps k)[k - 15]?.getD 0) + sig1 ((schedTo ps k)[k - 2]?.getD 0) := by rw [nextW, if_neg h16]
        have HN := Lib.hid hnx
        have HB1 := Lib.hid B1
        have HB2 := Lib.hid B2
        have HB3 := Lib.hid B3
        have HB := Lib.hid hb
        generalize (schedTo ps k)[k - 16]?.getD 0 = x16 at *
        generalize (schedTo ps k)[k - 15]?.getD 0 = x15 at *
        generalize (schedTo ps k)[k - 7]?.getD 0 = x7 at *
        generalize (schedTo ps k)[k - 2]?.getD 0 = x2 at *
        clear B1 B2 B3 hb get hnx
        go_wp2_with fail
        go_quiet (fail)
        go_wp2_with fail
        have t1 : IntKind.i64.wrap ((k : Int) - 16) = (k : Int) - 16 := IntWalk.i64_in _ (by omega)
        have t2 : IntKind.i64.wrap ((k : Int) - 7) = (k : Int) - 7 := IntWalk.i64_in _ (by omega)
        have t3 : (0 : Int) ≤ (k : Int) - 16 := by omega
        have t4 : (0 : Int) ≤ (k : Int) - 7 := by omega
        have t5 : (k : Int) - 16 < 64 := by omega
        have t6 : (k : Int) - 7 < 64 := by omega
        have t9 : (7 : Int) ≤ (k : Int) := by omega
        have t7 : ((k : Int) - 16).toNat = k - 16 := by omega
        have t8 : ((k : Int) - 7).toNat = k - 7 := by omega
        refine wp_region_still_tail 29 (by kernel_rfl) (by kernel_rfl) ?_
        simp only [List.take_succ_cons, List.take_zero, List.drop_succ_cons, List.drop_zero]
        change wpStill _ _ (wr.drewN nq).drew (fun a' => wpList _ _ _ _ a' (wr.drewN nq).drew) _ _
        obtain ⟨w2, hw2⟩ : ∃ w2, w2 = (wr.drewN nq).drew := ⟨_, rfl⟩
        rw [← hw2]
        have d16 : w2.cell? ⟨w.heap.size + 2, k - 16, none⟩ = some (.int .u32 (x16.toNat : Int)) := by rw [hw2]; exact c16
        have d7 : w2.cell? ⟨w.heap.size + 2, k - 7, none⟩ = some (.int .u32 (x7.toNat : Int)) := by rw [hw2]; exact c7
        have df : w2.frozen? ⟨w.heap.size + 2, k, none⟩ = false := by rw [hw2]; exact hf
        have dc : w2.cell? ⟨w.heap.size + 2, k, none⟩ = some (.int .u32 0) := by rw [hw2]; exact hc
        have DB1 : Hid (Blk w2 w.heap.size 34 (arr8 ps)) := Lib.hid (by rw [hw2]; exact HB1.out)
        have DB2 : Hid (Blk w2 (w.heap.size + 1) 24 (arr32 (z32 64))) := Lib.hid (by rw [hw2]; exact HB2.out)
        have DB3 : Hid (Blk w2 (w.heap.size + 2) 24 (arr32 (schedTo ps k ++ z32 (64 - k)))) := Lib.hid (by rw [hw2]; exact HB3.out)
        have DB : Hid (Below w.heap.size w w2) := Lib.hid (by rw [hw2]; exact (below_drewN HB.out nq).drew)
        clear hw2 c15 c2 c16 c7 hf hc
        repeat still_step
        clear t1 t2 t3 t4 t5 t6 t7 t8 t9
        still_call still_of (rotr_c x15 7 (by omega) (by omega) _)
        repeat still_step
        still_call still_of (rotr_c x15 18 (by omega) (by omega) _)
        repeat still_step
        still_call still_of (rotr_c x2 17 (by omega) (by omega) _)
        repeat still_step
        still_call still_of (rotr_c x2 19 (by omega) (by omega) _)
        repeat still_step
        refine wpStill_nil ?_
        go_wp2_with fail
        go_roundw
        case rel =>
          have e : ((x16.toNat : Int) + (x7.toNat : Int) + bits .xor .u32 (bits .xor .u32 ((rotR x15 7).toNat : Int) ((rotR x15 18).toNat : Int)) ((x15.toNat : Int) / 8) +
              bits .xor .u32 (bits .xor .u32 ((rotR x2 17).toNat : Int) ((rotR x2 19).toNat : Int)) ((x2.toNat : Int) / 1024)) % 4294967296 = ((nextW ps (schedTo ps k) k).toNat : Int) := by
            rw [show (x15.toNat : Int) / 8 = ((shR x15 3).toNat : Int) from shr32' x15 3, show (x2.toNat : Int) / 1024 = ((shR x2 10).toNat : Int) from shr32' x2 10, xor32, xor32, xor32, xor32, sum4, HN.out]
            rfl
          rw [e]
          refine ⟨k + 1, by omega, by go_num, DB1.out.far (by simp; omega) _, DB2.out.far (by simp) _, ?_, DB.out.setCell (by simp; omega) _⟩
          show Blk _ _ _ (arr32 ((schedTo ps k ++ [nextW ps (schedTo ps k) k]) ++ z32 (64 - (k + 1))))
          rw [← arr32_next _ 64 k hls.out hlt]
          exact DB3.out.set_ k _
        case measure => simp [intOf]; omega
    · obtain rfl : k = 64 := by omega
      have B3' : Blk wr (w.heap.size + 2) 24 (arr32 (sched ps)) := by simpa [z32, sched] using B3
      have HB := Lib.hid hb
      clear B3 hb
      go_wp2_with (first
        | ((with_reducible show wpList _ _ _ (Oper.mk (some 60) (Op.load 24 _) _ _ _ _ :: _) _ _); refine wpList_load_whole rfl 24 (.tmp 3) rfl (w.heap.size + 2) rfl (arr32 (sched ps)) agg24 (by rw [size_arr32, len_sched]) 24 B3' ?_)
        | ((with_reducible show wpList _ _ _ (Oper.mk none (Op.store 24 _ _) _ _ _ _ :: _) _ _); refine wpList_store32 rfl 24 (.tmp 2) (.tmp 60) rfl (w.heap.size + 1) rfl (sched ps) rfl agg24 (len_sched _) _ _ B2 (by rw [size_arr32, len_z32]) ?_; intro w5 hb5 hg5 hs5))
      refine bodyPost_ret (results_cell_one rfl _ (w.heap.size + 1) _ (arr32 (sched ps)) agg24 (by rw [size_arr32, len_sched]) rfl hb5) rfl ⟨rfl, ?_⟩
      exact HB.out.grown hg5 hz (fun k hk => by cases hk; exact Nat.le_succ _)
end Go.Proofs.Ytbphoilfiahnpaa
