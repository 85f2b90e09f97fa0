/-
  The reference's Schedule.
-/
import Derived.Test.YtbphoilfiahnpaaRefRot
namespace Go.Proofs.Ytbphoilfiahnpaa
open Go.RowKit
set_option linter.unusedVariables false
set_option maxRecDepth 100000

/-- A word of the first k bytes of four. -/
theorem word_step (bs : List UInt8) (h : bs.length ≤ 3) (x : UInt8) : ((bigN bs : Int) * 256 % 4294967296 + (x.toNat : Int)) % 4294967296 = (bigN (bs ++ [x]) : Int) := by
  have h1 : bigN bs < 16777216 := by
    match bs, h with
    | [], _ => decide
    | [a], _ => have := UInt8.toNat_lt a; simp [bigN]; omega
    | [a, b], _ => have := UInt8.toNat_lt a; have := UInt8.toNat_lt b; simp [bigN]; omega
    | [a, b, c], _ => have := UInt8.toNat_lt a; have := UInt8.toNat_lt b; have := UInt8.toNat_lt c; simp [bigN]; omega
    | _ :: _ :: _ :: _ :: _, h => simp at h
  have h2 := UInt8.toNat_lt x
  rw [bigN_snoc]
  omega
theorem wordAt_nat (ps : List UInt8) (k : Nat) : (bigN ((ps.drop (4 * k)).take 4) : Int) = ((wordAt ps k).toNat : Int) := by
  have := word_lt ((ps.drop (4 * k)).take 4) (List.length_take_le _ _)
  rw [wordAt, UInt32.toNat_ofNat']
  omega
/-- The first k words stand; the next holds what the first j bytes of four make. -/
def midW (ps : List UInt8) (k : Nat) (x : Nat) : List UInt32 := schedTo ps k ++ [UInt32.ofNat x] ++ z32 (63 - k)

set_option maxHeartbeats 2000000 in
theorem refsched_c {w : World} {B : Nat} {A : Option Addr} {c : Nat} {ps : List UInt8} (ha : SlB w B A 64 c ps) (hB : B ≤ w.heap.size) :
    Calls Try.prog 29 #[.slice A 64 c] w fun e w' => e = .returned (.agg (arr32 (sched ps))) ∧ Below w.heap.size w w' := by
  have hl := Lib.hid ha.len
  have hcm : c ≤ 9223372036854775807 := ha.cap
  obtain ⟨b, off, rfl, hbB, hj⟩ := ha.at_ (by have := ha.le; omega)
  have HJ := Lib.hid hj
  have b2 := Blk.new w 24 (arr32 (z32 64))
  have b3 := Blk.new (w.alloc (.cells (arr32 (z32 64)) 24)) 24 (arr32 (z32 64))
  simp only [World.size_alloc] at b3
  have B2 := b2.alloc (.cells (arr32 (z32 64)) 24)
  have hb : Below w.heap.size w ((w.alloc (.cells (arr32 (z32 64)) 24)).alloc (.cells (arr32 (z32 64)) 24)) := ((Below.refl _ _).alloc (Nat.le_refl _) _).alloc (by simp) _
  clear ha hj b2
  go_enter Try.func29, Try.ntmps29
  go_wp2_with ((with_reducible show wpList _ _ _ (Oper.mk _ (Op.alloc 24) _ _ _ _ :: _) _ _); refine wpList_alloc_agg rfl 24 rfl (arr32 (z32 64)) zero24 ?_; (try simp only [World.size_alloc]))
  obtain ⟨w3, hw3⟩ : ∃ w3 : World, w3 = ((w.alloc (.cells (arr32 (z32 64)) 24)).alloc (.cells (arr32 (z32 64)) 24)) := ⟨_, rfl⟩
  rw [← hw3] at hb B2 b3 ⊢
  clear hw3
  go_loopw [4] (fun i wr => ∃ k : Nat, k ≤ 16 ∧ i = .int .i64 k ∧ Blk wr w.heap.size 24 (arr32 (z32 64)) ∧
      Blk wr (w.heap.size + 1) 24 (arr32 (schedTo ps k ++ z32 (64 - k))) ∧ Below w.heap.size w wr) (fun i _ => 16 - (intOf i).toNat)
  case atStart => exact ⟨0, by omega, rfl, B2, b3, hb⟩
  case round =>
    clear B2 b3 hb
    obtain ⟨k, hk, rfl, B2, B3, hb⟩ := hrel
    have hz := hb.size
    have hls := Lib.hid (len_schedTo ps k)
    obtain ⟨wo, hwo⟩ : ∃ wo : World, wo = wr := ⟨_, rfl⟩
    rw [← hwo] at B2 B3 hb hz ⊢
    clear hwo wr
    by_cases hlt : k < 16
    · have hstart : Blk wo (w.heap.size + 1) 24 (arr32 (midW ps k 0)) := by
        have e : schedTo ps k ++ z32 (64 - k) = midW ps k 0 := by
          rw [midW, List.append_assoc, show 64 - k = 63 - k + 1 from by omega, z32, List.replicate_succ]
          rfl
        rw [← e]; exact B3
      have HB2 := Lib.hid B2
      have HS := Lib.hid hstart
      have HB := Lib.hid hb
      clear B2 B3 hb hstart
      have hkd : decide ((k : Int) < 16) = true := by rw [decide_eq_true_eq]; omega
      go_wp2_with fail
      go_loopw [5] (fun v5 wr => ∃ j : Nat, j ≤ 4 ∧ v5 = .int .i64 j ∧ Blk wr w.heap.size 24 (arr32 (z32 64)) ∧
          Blk wr (w.heap.size + 1) 24 (arr32 (midW ps k (bigN ((ps.drop (4 * k)).take j)))) ∧ Below w.heap.size w wr) (fun v5 _ => 4 - (intOf v5).toNat)
      case atStart => exact ⟨0, by omega, rfl, HB2.out, HS.out, HB.out⟩
      case round =>
        clear HB2 HS HB
        obtain ⟨j, hj4, rfl, C2, C3, hb⟩ := hrel
        have hzr := hb.size
        by_cases hlt4 : j < 4
        · have hjl : 4 * k + j < ps.length := by rw [hl.out]; omega
          obtain ⟨x, hx⟩ : ∃ x, x = ps[4 * k + j] := ⟨_, rfl⟩
          have hcell : wr.cell? ⟨b, off + (4 * k + j), none⟩ = some (.int .u8 (x.toNat : Int)) := (hb.cell (p := ⟨b, off + (4 * k + j), none⟩) (Nat.lt_of_lt_of_le hbB hB)).trans (HJ.out _ _ (by rw [hx]; exact List.getElem?_eq_getElem hjl))
          have htk : (ps.drop (4 * k)).take (j + 1) = (ps.drop (4 * k)).take j ++ [x] := by
            rw [List.take_succ_eq_append_getElem (by rw [List.length_drop]; omega), List.getElem_drop, hx]
          have hlen3 : ((ps.drop (4 * k)).take j).length ≤ 3 := Nat.le_trans (List.length_take_le _ _) (by omega)
          have hN := word_lt ((ps.drop (4 * k)).take j) (by omega)
          have hstep := word_step _ hlen3 x
          rw [← htk] at hstep
          have hN1 := word_lt ((ps.drop (4 * k)).take (j + 1)) (Nat.le_trans (List.length_take_le _ _) (by omega))
          have hset : ∀ N' : Nat, N' < 4294967296 → (arr32 (midW ps k (bigN ((ps.drop (4 * k)).take j)))).setIfInBounds k (.int .u32 (N' : Int)) = arr32 (midW ps k N') := fun N' h' => by
            have e : Value.int .u32 (N' : Int) = b32 (UInt32.ofNat N') := by rw [b32, UInt32.toNat_ofNat', Nat.mod_eq_of_lt (by omega)]
            rw [e, arr32, arr32, List.setIfInBounds_toArray, ← List.map_set, midW, List.append_assoc, List.set_append_right _ _ (by rw [hls.out]; exact Nat.le_refl _), hls.out, Nat.sub_self, midW, List.append_assoc]
            rfl
          have hck : wr.cell? ⟨w.heap.size + 1, k, none⟩ = some (.int .u32 (bigN ((ps.drop (4 * k)).take j) : Int)) := by
            rw [C3.cell, arr32_get, midW, List.append_assoc, List.getElem?_append_right (by rw [hls.out]; exact Nat.le_refl _), hls.out, Nat.sub_self]
            show some (b32 (UInt32.ofNat _)) = _
            rw [b32, UInt32.toNat_ofNat', Nat.mod_eq_of_lt (by omega)]
          have hfk := C3.frozen k
          obtain ⟨q, hq⟩ : ∃ q, q = 4 * k + j := ⟨_, rfl⟩
          rw [← hq] at hcell
          have hq64 : q < 64 := by omega
          have t1 : IntKind.i64.wrap (4 * (k : Int)) = 4 * (k : Int) := IntWalk.i64_in _ (by omega)
          have t2 : IntKind.i64.wrap (4 * (k : Int) + (j : Int)) = (q : Int) := (IntWalk.i64_in _ (by omega)).trans (by omega)
          have t3 : (0 : Int) ≤ (q : Int) := by omega
          have t4 : (q : Int) < 64 := by omega
          have t5 : (0 : Int) ≤ (k : Int) := by omega
          have t6 : (k : Int) < 64 := by omega
          obtain ⟨N, hNN⟩ : ∃ N, N = bigN ((ps.drop (4 * k)).take j) := ⟨_, rfl⟩
          rw [← hNN] at hck hN hset hstep C3
          have HSET := Lib.hid hset
          have HSTEP := Lib.hid hstep
          have HN := Lib.hid hN
          have HN1 := Lib.hid hN1
          have HC2 := Lib.hid C2
          have HC3 := Lib.hid C3
          have HB := Lib.hid hb
          clear hq hx htk hlen3 hN hNN hstep hset hN1 C2 C3 hb hjl
          go_wp2_with fail
          refine wp_region_still_tail 15 (by kernel_rfl) (by kernel_rfl) ?_
          simp only [List.take_succ_cons, List.take_zero, List.drop_succ_cons, List.drop_zero]
          change wpStill _ _ wr.drew (fun a' => wpList _ _ _ _ a' wr.drew) _ _
          obtain ⟨w2, hw2⟩ : ∃ w2, w2 = wr.drew := ⟨_, rfl⟩
          rw [← hw2]
          have d1 : w2.cell? ⟨b, off + q, none⟩ = some (.int .u8 (x.toNat : Int)) := by rw [hw2]; exact hcell
          have d2 : w2.cell? ⟨w.heap.size + 1, k, none⟩ = some (.int .u32 (N : Int)) := by rw [hw2]; exact hck
          have d3 : w2.frozen? ⟨w.heap.size + 1, k, none⟩ = false := by rw [hw2]; exact hfk
          have DC2 : Hid (Blk w2 w.heap.size 24 (arr32 (z32 64))) := Lib.hid (by rw [hw2]; exact HC2.out)
          have DC3 : Hid (Blk w2 (w.heap.size + 1) 24 (arr32 (midW ps k N))) := Lib.hid (by rw [hw2]; exact HC3.out)
          have DB : Hid (Below w.heap.size w w2) := Lib.hid (by rw [hw2]; exact HB.out.drew)
          clear hw2 hcell hck hfk
          repeat still_step
          refine wpStill_nil ?_
          clear t1 t2 t3 t4 t5 t6
          go_wp2_with fail
          go_roundw
          case rel =>
            refine ⟨j + 1, by omega, by go_num, DC2.out.far (by simp) _, ?_, DB.out.setCell (by simp) _⟩
            have e : ((N : Int) * 256 + (x.toNat : Int)) % 4294967296 = ((bigN ((ps.drop (4 * k)).take (j + 1)) : Nat) : Int) := by rw [← HSTEP.out]; omega
            rw [e, ← HSET.out _ HN1.out]
            exact DC3.out.set_ k _
          case measure => simp [intOf]; omega
        · obtain rfl : j = 4 := by omega
          have C3' : Hid (Blk wr (w.heap.size + 1) 24 (arr32 (schedTo ps (k + 1) ++ z32 (64 - (k + 1))))) := Lib.hid (by
            have e : midW ps k (bigN ((ps.drop (4 * k)).take 4)) = schedTo ps (k + 1) ++ z32 (64 - (k + 1)) := by
              rw [midW, schedTo, nextW, if_pos hlt, wordAt, show 64 - (k + 1) = 63 - k from by omega]
            rw [← e]; exact C3)
          have HC2 := Lib.hid C2
          have HB := Lib.hid hb
          clear C2 C3 hb
          go_wp2_with fail
          go_roundw
          case rel => exact ⟨k + 1, by omega, by go_num, HC2.out, C3'.out, HB.out⟩
          case measure => simp [intOf]; omega
    · have hk16 : k = 16 := by omega
      have HB2 := Lib.hid B2
      have HB3 : Hid (Blk wo (w.heap.size + 1) 24 (arr32 (schedTo ps 16 ++ z32 (64 - 16)))) := Lib.hid (by rw [← hk16]; exact B3)
      have hkd : decide ((k : Int) < 16) = false := by rw [decide_eq_false_iff_not]; omega
      clear hk16
      have HB := Lib.hid hb
      clear B2 B3 hb
      go_wp2_with fail
      go_loopw [6] (fun v6 wr => ∃ k : Nat, 16 ≤ k ∧ k ≤ 64 ∧ v6 = .int .i64 (k : Int) ∧ Blk wr w.heap.size 24 (arr32 (z32 64)) ∧
          Blk wr (w.heap.size + 1) 24 (arr32 (schedTo ps k ++ z32 (64 - k))) ∧ Below w.heap.size w wr) (fun v6 _ => 64 - (intOf v6).toNat)
      case atStart => exact ⟨16, by omega, by omega, rfl, HB2.out, HB3.out, HB.out⟩
      case round =>
        clear HB2 HB3 HB hlt hkd hls
        obtain ⟨k, hk16, hk64, rfl, B2, B3, hb⟩ := hrel
        have hzr := hb.size
        have hls := Lib.hid (len_schedTo ps k)
        by_cases hlt : k < 64
        · have get : ∀ j, j < k → wr.cell? ⟨w.heap.size + 1, j, none⟩ = some (.int .u32 (((schedTo ps k)[j]?.getD 0).toNat : Int)) := fun j hj => by
            rw [B3.cell]; exact arr32_at _ j (by rw [hls.out]; exact hj) _
          have c15 := get (k - 15) (by omega)
          have c2 := get (k - 2) (by omega)
          have c16 := get (k - 16) (by omega)
          have c7 := get (k - 7) (by omega)
          have hf := B3.frozen k
          have hc : wr.cell? ⟨w.heap.size + 1, k, none⟩ = some (.int .u32 0) := by
            rw [B3.cell, arr32_get, List.getElem?_append_right (by rw [hls.out]; exact Nat.le_refl _), hls.out, Nat.sub_self, z32, List.getElem?_replicate, if_pos (by omega)]
            rfl
          have hnx : nextW ps (schedTo ps k) k = (schedTo ps k)[k - 16]?.getD 0 + (schedTo ps k)[k - 7]?.getD 0 + sig0 ((schedTo ps k)[k - 15]?.getD 0) + sig1 ((schedTo ps k)[k - 2]?.getD 0) := by rw [nextW, if_neg (by omega)]
          have HN := Lib.hid hnx
          have HB2 := Lib.hid B2
          have HB3 := Lib.hid B3
          have HB := Lib.hid hb
          generalize (schedTo ps k)[k - 16]?.getD 0 = x16 at *
          generalize (schedTo ps k)[k - 15]?.getD 0 = x15 at *
          generalize (schedTo ps k)[k - 7]?.getD 0 = x7 at *
          generalize (schedTo ps k)[k - 2]?.getD 0 = x2 at *
          clear B2 B3 hb get hnx
          have h16' : (16 : Int) ≤ (k : Int) := by omega
          go_wp2_with fail
          go_quiet (first
            | (go_at_call 56; exact quiet_left (refrotr_c _ _ (by omega) (by omega) _))
            | (go_at_call 57; exact quiet_left (refshr_c _ _ (by omega) (by omega) _)))
          generalize nq = q1
          go_wp2_with fail
          go_quiet (first
            | (go_at_call 56; exact quiet_add_left (refrotr_c _ _ (by omega) (by omega) _))
            | (go_at_call 57; exact quiet_add_left (refshr_c _ _ (by omega) (by omega) _)))
          go_wp2_with fail
          rw [xor32, xor32, xor32, xor32]
          generalize hS0 : rotR x15 7 ^^^ rotR x15 18 ^^^ shR x15 3 = y0
          generalize hS1 : rotR x2 17 ^^^ rotR x2 19 ^^^ shR x2 10 = y1
          have HS0 := Lib.hid hS0
          have HS1 := Lib.hid hS1
          clear hS0 hS1
          have t1 : IntKind.i64.wrap ((k : Int) - 16) = (k : Int) - 16 := IntWalk.i64_in _ (by omega)
          have t2 : IntKind.i64.wrap ((k : Int) - 7) = (k : Int) - 7 := IntWalk.i64_in _ (by omega)
          have t3 : (0 : Int) ≤ (k : Int) - 16 := by omega
          have t4 : (0 : Int) ≤ (k : Int) - 7 := by omega
          have t5 : (k : Int) - 16 < 64 := by omega
          have t6 : (k : Int) - 7 < 64 := by omega
          have t9 : (7 : Int) ≤ (k : Int) := by omega
          have t10 : (k : Int) < 64 := by omega
          have t7 : ((k : Int) - 16).toNat = k - 16 := by omega
          have t8 : ((k : Int) - 7).toNat = k - 7 := by omega
          refine wp_region_still_tail 15 (by kernel_rfl) (by kernel_rfl) ?_
          simp only [List.take_succ_cons, List.take_zero, List.drop_succ_cons, List.drop_zero]
          change wpStill _ _ ((wr.drewN q1).drewN nq).drew (fun a' => wpList _ _ _ _ a' ((wr.drewN q1).drewN nq).drew) _ _
          obtain ⟨w2, hw2⟩ : ∃ w2, w2 = ((wr.drewN q1).drewN nq).drew := ⟨_, rfl⟩
          rw [← hw2]
          have d16 : w2.cell? ⟨w.heap.size + 1, k - 16, none⟩ = some (.int .u32 (x16.toNat : Int)) := by rw [hw2]; exact c16
          have d7 : w2.cell? ⟨w.heap.size + 1, k - 7, none⟩ = some (.int .u32 (x7.toNat : Int)) := by rw [hw2]; exact c7
          have df : w2.frozen? ⟨w.heap.size + 1, k, none⟩ = false := by rw [hw2]; exact hf
          have dc : w2.cell? ⟨w.heap.size + 1, k, none⟩ = some (.int .u32 0) := by rw [hw2]; exact hc
          have DB2 : Hid (Blk w2 w.heap.size 24 (arr32 (z32 64))) := Lib.hid (by rw [hw2]; exact HB2.out)
          have DB3 : Hid (Blk w2 (w.heap.size + 1) 24 (arr32 (schedTo ps k ++ z32 (64 - k)))) := Lib.hid (by rw [hw2]; exact HB3.out)
          have DB : Hid (Below w.heap.size w w2) := Lib.hid (by rw [hw2]; exact (below_drewN (below_drewN HB.out q1) nq).drew)
          clear hw2 c15 c2 c16 c7 hf hc
          repeat still_step
          refine wpStill_nil ?_
          clear t1 t2 t3 t4 t5 t6 t7 t8 t9 t10
          go_wp2_with fail
          go_roundw
          case rel =>
            have e : ((y1.toNat : Int) + (x7.toNat : Int) + (y0.toNat : Int) + (x16.toNat : Int)) % 4294967296 = ((nextW ps (schedTo ps k) k).toNat : Int) := by
              rw [show (y1.toNat : Int) + (x7.toNat : Int) + (y0.toNat : Int) + (x16.toNat : Int) = (x16.toNat : Int) + (x7.toNat : Int) + (y0.toNat : Int) + (y1.toNat : Int) from by omega, sum4, HN.out, sig0, sig1, HS0.out, HS1.out]
            rw [e]
            refine ⟨k + 1, by omega, by omega, by go_num, DB2.out.far (by simp) _, ?_, DB.out.setCell (by simp) _⟩
            show Blk _ _ _ (arr32 ((schedTo ps k ++ [nextW ps (schedTo ps k) k]) ++ z32 (64 - (k + 1))))
            rw [← arr32_next _ 64 k hls.out hlt]
            exact DB3.out.set_ k _
          case measure => simp [intOf]; omega
        · obtain rfl : k = 64 := by omega
          have B3' : Blk wr (w.heap.size + 1) 24 (arr32 (sched ps)) := by simpa [z32, sched] using B3
          have HB := Lib.hid hb
          clear B3 hb
          go_wp2_with (first
            | ((with_reducible show wpList _ _ _ (Oper.mk (some 85) (Op.load 24 _) _ _ _ _ :: _) _ _); refine wpList_load_whole rfl 24 (.tmp 3) rfl (w.heap.size + 1) rfl (arr32 (sched ps)) agg24 (by rw [size_arr32, len_sched]) 24 B3' ?_)
            | ((with_reducible show wpList _ _ _ (Oper.mk none (Op.store 24 _ _) _ _ _ _ :: _) _ _); refine wpList_store32 rfl 24 (.tmp 2) (.tmp 85) rfl w.heap.size rfl (sched ps) rfl agg24 (len_sched _) _ _ B2 (by rw [size_arr32, len_z32]) ?_; intro w5 hb5 hg5 hs5))
          refine bodyPost_ret (results_cell_one rfl _ w.heap.size _ (arr32 (sched ps)) agg24 (by rw [size_arr32, len_sched]) rfl hb5) rfl ⟨rfl, ?_⟩
          exact HB.out.grown hg5 hzr (fun k hk => by cases hk; exact Nat.le_refl _)
end Go.Proofs.Ytbphoilfiahnpaa
