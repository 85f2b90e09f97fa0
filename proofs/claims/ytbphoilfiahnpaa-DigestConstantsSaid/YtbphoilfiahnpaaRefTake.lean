/-
  The reference's Take.
-/
import Derived.Test.YtbphoilfiahnpaaRefRot
namespace Go.Proofs.Ytbphoilfiahnpaa
open Go.RowKit
set_option linter.unusedVariables false
set_option maxRecDepth 100000

theorem ch_eq (e f g : UInt32) : (e &&& f) ^^^ (~~~e &&& g) = g ^^^ (e &&& (f ^^^ g)) := by
  apply UInt32.toBitVec_inj.1
  simp only [UInt32.toBitVec_xor, UInt32.toBitVec_and, UInt32.toBitVec_not]
  apply BitVec.eq_of_getLsbD_eq
  intro i hi
  simp only [BitVec.getLsbD_xor, BitVec.getLsbD_and, BitVec.getLsbD_not, hi, decide_true, Bool.true_and]
  cases e.toBitVec.getLsbD i <;> cases f.toBitVec.getLsbD i <;> cases g.toBitVec.getLsbD i <;> rfl
theorem maj_eq (a b c : UInt32) : (a &&& b) ^^^ (a &&& c) ^^^ (b &&& c) = (a &&& b ||| c &&& (a ||| b)) := by
  apply UInt32.toBitVec_inj.1
  simp only [UInt32.toBitVec_xor, UInt32.toBitVec_and, UInt32.toBitVec_or]
  apply BitVec.eq_of_getLsbD_eq
  intro i hi
  simp only [BitVec.getLsbD_xor, BitVec.getLsbD_and, BitVec.getLsbD_or]
  cases a.toBitVec.getLsbD i <;> cases b.toBitVec.getLsbD i <;> cases c.toBitVec.getLsbD i <;> rfl

theorem not32 (e : UInt32) : bits .xor .u32 (if IntKind.u32.signed = true then -1 else IntKind.u32.max) (e.toNat : Int) = ((~~~e).toNat : Int) := by
  have h : (if IntKind.u32.signed = true then -1 else IntKind.u32.max) = (((4294967295 : UInt32).toNat : Nat) : Int) := by rfl
  rw [h, xor32]
  have e : (4294967295 ^^^ e) = ~~~e := rfl
  rw [e]
theorem tee_ref (e f g z k x : UInt32) : ((z.toNat : Int) + bits .xor .u32 (bits .xor .u32 ((rotR e 6).toNat : Int) ((rotR e 11).toNat : Int)) ((rotR e 25).toNat : Int) +
    bits .xor .u32 (bits .and .u32 (e.toNat : Int) (f.toNat : Int)) (bits .and .u32 (bits .xor .u32 (if IntKind.u32.signed = true then -1 else IntKind.u32.max) (e.toNat : Int)) (g.toNat : Int)) + (k.toNat : Int) + (x.toNat : Int)) % 4294967296 = ((tee e f g z k x).toNat : Int) := by
  rw [not32, xor32, xor32, and32, and32, xor32, ch_eq, tee, UInt32.toNat_add, UInt32.toNat_add, UInt32.toNat_add, UInt32.toNat_add]
  omega
theorem yoo_ref (a b c : UInt32) : (bits .xor .u32 (bits .xor .u32 ((rotR a 2).toNat : Int) ((rotR a 13).toNat : Int)) ((rotR a 22).toNat : Int) +
    bits .xor .u32 (bits .xor .u32 (bits .and .u32 (a.toNat : Int) (b.toNat : Int)) (bits .and .u32 (a.toNat : Int) (c.toNat : Int))) (bits .and .u32 (b.toNat : Int) (c.toNat : Int))) % 4294967296 = ((yoo a b c).toNat : Int) := by
  rw [xor32, xor32, and32, and32, and32, xor32, xor32, maj_eq, yoo, UInt32.toNat_add]
  omega
theorem add32m (x y : UInt32) : ((x.toNat : Int) + (y.toNat : Int)) % 4294967296 = ((x + y).toNat : Int) := by rw [← add32, IntKind.wrap_u32']

/-- A schedule is taken with any constants. -/
def takeHK (h w k : List UInt32) : List UInt32 := List.zipWith (· + ·) h (takeTo h w k 64)

set_option maxHeartbeats 2000000 in
theorem reftake_c (hs ws ks : List UInt32) (hh : hs.length = 8) (hw : ws.length = 64) (hk : ks.length = 64) (w : World) :
    Calls Try.prog 31 #[.agg (arr32 hs), .agg (arr32 ws), .agg (arr32 ks)] w fun e w' => e = .returned (.agg (arr32 (takeHK hs ws ks))) ∧ Below w.heap.size w w' := by
  obtain ⟨h0, h1, h2, h3, h4, h5, h6, h7, rfl⟩ := eight hh
  have HW := Lib.hid hw
  have HKs := Lib.hid hk
  have b1 := Blk.new w 26 (arr32 [h0, h1, h2, h3, h4, h5, h6, h7])
  have b2 := Blk.new (w.alloc (.cells (arr32 [h0, h1, h2, h3, h4, h5, h6, h7]) 26)) 24 (arr32 ws)
  have b3 := Blk.new ((w.alloc (.cells (arr32 [h0, h1, h2, h3, h4, h5, h6, h7]) 26)).alloc (.cells (arr32 ws) 24)) 24 (arr32 ks)
  have b4 := Blk.new (((w.alloc (.cells (arr32 [h0, h1, h2, h3, h4, h5, h6, h7]) 26)).alloc (.cells (arr32 ws) 24)).alloc (.cells (arr32 ks) 24)) 26 (arr32 (z32 8))
  simp only [World.size_alloc] at b2 b3 b4
  have B1 := ((b1.alloc (.cells (arr32 ws) 24)).alloc (.cells (arr32 ks) 24)).alloc (.cells (arr32 (z32 8)) 26)
  have B2 := (b2.alloc (.cells (arr32 ks) 24)).alloc (.cells (arr32 (z32 8)) 26)
  have B3 := b3.alloc (.cells (arr32 (z32 8)) 26)
  have hb : Below w.heap.size w ((((w.alloc (.cells (arr32 [h0, h1, h2, h3, h4, h5, h6, h7]) 26)).alloc (.cells (arr32 ws) 24)).alloc (.cells (arr32 ks) 24)).alloc (.cells (arr32 (z32 8)) 26)) := ((((Below.refl _ _).alloc (Nat.le_refl _) _).alloc (by simp) _).alloc (by simp; omega) _).alloc (by simp; omega) _
  clear hh hw hk b1 b2 b3
  go_enter Try.func31, Try.ntmps31
  go_wp2_with ((with_reducible show wpList _ _ _ (Oper.mk _ (Op.alloc 26) _ _ _ _ :: _) _ _); refine wpList_alloc_agg rfl 26 rfl (arr32 (z32 8)) zero26 ?_; (try simp only [World.size_alloc]))
  simp only [Act.put, List.setIfInBounds_toArray, List.set_cons_succ, List.set_cons_zero]
  obtain ⟨w3, hw3⟩ : ∃ w3 : World, w3 = ((((w.alloc (.cells (arr32 [h0, h1, h2, h3, h4, h5, h6, h7]) 26)).alloc (.cells (arr32 ws) 24)).alloc (.cells (arr32 ks) 24)).alloc (.cells (arr32 (z32 8)) 26)) := ⟨_, rfl⟩
  rw [← hw3] at B1 B2 B3 b4 hb ⊢
  clear hw3
  have c0 : w3.cell? ⟨w.heap.size, 0, none⟩ = some (.int .u32 (h0.toNat : Int)) := by rw [B1.cell]; rfl
  have c1 : w3.cell? ⟨w.heap.size, 1, none⟩ = some (.int .u32 (h1.toNat : Int)) := by rw [B1.cell]; rfl
  have c2 : w3.cell? ⟨w.heap.size, 2, none⟩ = some (.int .u32 (h2.toNat : Int)) := by rw [B1.cell]; rfl
  have c3 : w3.cell? ⟨w.heap.size, 3, none⟩ = some (.int .u32 (h3.toNat : Int)) := by rw [B1.cell]; rfl
  have c4 : w3.cell? ⟨w.heap.size, 4, none⟩ = some (.int .u32 (h4.toNat : Int)) := by rw [B1.cell]; rfl
  have c5 : w3.cell? ⟨w.heap.size, 5, none⟩ = some (.int .u32 (h5.toNat : Int)) := by rw [B1.cell]; rfl
  have c6 : w3.cell? ⟨w.heap.size, 6, none⟩ = some (.int .u32 (h6.toNat : Int)) := by rw [B1.cell]; rfl
  have c7 : w3.cell? ⟨w.heap.size, 7, none⟩ = some (.int .u32 (h7.toNat : Int)) := by rw [B1.cell]; rfl
  have HB1 := Lib.hid B1
  have HB2 := Lib.hid B2
  have HB3 := Lib.hid B3
  have HB4 := Lib.hid b4
  have HB := Lib.hid hb
  clear B1 B2 B3 b4 hb
  go_quiet (fail)
  go_wp2_with fail
  clear c0 c1 c2 c3 c4 c5 c6 c7
  go_loopw [7, 8, 9, 10, 11, 12, 13, 14, 15] (fun v7 v8 v9 v10 v11 v12 v13 v14 v15 wr => ∃ (i : Nat) (a b c d e f g z : UInt32), i ≤ 64 ∧ takeTo [h0, h1, h2, h3, h4, h5, h6, h7] ws ks i = [a, b, c, d, e, f, g, z] ∧ v15 = .int .i64 (i : Int) ∧
      v7 = .int .u32 (a.toNat : Int) ∧ v8 = .int .u32 (b.toNat : Int) ∧ v9 = .int .u32 (c.toNat : Int) ∧ v10 = .int .u32 (d.toNat : Int) ∧ v11 = .int .u32 (e.toNat : Int) ∧ v12 = .int .u32 (f.toNat : Int) ∧ v13 = .int .u32 (g.toNat : Int) ∧ v14 = .int .u32 (z.toNat : Int) ∧
      Blk wr w.heap.size 26 (arr32 [h0, h1, h2, h3, h4, h5, h6, h7]) ∧ Blk wr (w.heap.size + 1) 24 (arr32 ws) ∧ Blk wr (w.heap.size + 2) 24 (arr32 ks) ∧ Blk wr (w.heap.size + 3) 26 (arr32 (z32 8)) ∧ Below w.heap.size w wr)
    (fun _ _ _ _ _ _ _ _ v15 _ => 64 - (intOf v15).toNat)
  case atStart => exact ⟨0, _, _, _, _, _, _, _, _, by omega, rfl, rfl, rfl, rfl, rfl, rfl, rfl, rfl, rfl, rfl, HB1.out.drewN _, HB2.out.drewN _, HB3.out.drewN _, HB4.out.drewN _, below_drewN HB.out _⟩
  case round =>
    clear HB1 HB2 HB3 HB4 HB
    obtain ⟨i, a, b, c, d, e, f, g, z, hi, hv, rfl, rfl, rfl, rfl, rfl, rfl, rfl, rfl, rfl, B1, B2, B3, B4, hb⟩ := hrel
    have hz := hb.size
    have HV := Lib.hid hv
    clear hv
    by_cases hlt : i < 64
    · have hcw : wr.cell? ⟨w.heap.size + 1, i, none⟩ = some (.int .u32 ((ws[i]?.getD 0).toNat : Int)) := by rw [B2.cell, arr32_get, List.getElem?_eq_getElem (by rw [HW.out]; exact hlt)]; rfl
      have hck : wr.cell? ⟨w.heap.size + 2, i, none⟩ = some (.int .u32 ((ks[i]?.getD 0).toNat : Int)) := by rw [B3.cell, arr32_get, List.getElem?_eq_getElem (by rw [HKs.out]; exact hlt)]; rfl
      obtain ⟨x, hx⟩ : ∃ x, x = ws[i]?.getD 0 := ⟨_, rfl⟩
      obtain ⟨k, hk⟩ : ∃ k, k = ks[i]?.getD 0 := ⟨_, rfl⟩
      rw [← hx] at hcw
      rw [← hk] at hck
      have HX := Lib.hid hx
      have HK := Lib.hid hk
      have HB1 := Lib.hid B1
      have HB2 := Lib.hid B2
      have HB3 := Lib.hid B3
      have HB4 := Lib.hid B4
      have HB := Lib.hid hb
      have hi0 : (0 : Int) ≤ (i : Int) := by omega
      have hi1 : (i : Int) < 64 := by omega
      clear hx hk B1 B2 B3 B4 hb
      go_wp2_with fail
      go_quiet ((go_at_call 56; exact quiet_left (refrotr_c _ _ (by omega) (by omega) _)))
      go_wp2_with (go_at_call 56; refine (refrotr_c _ _ (by omega) (by omega) _).mono ?_; rintro e w' ⟨rfl, rfl⟩)
      go_roundw
      case rel =>
        rw [tee_ref, yoo_ref, add32m, add32m]
        refine ⟨i + 1, _, _, _, _, _, _, _, _, by omega, ?_, by go_num, rfl, rfl, rfl, rfl, rfl, rfl, rfl, rfl, HB1.out.drewN _, HB2.out.drewN _, HB3.out.drewN _, HB4.out.drewN _, below_drewN HB.out _⟩
        rw [takeTo, HV.out, ← HX.out, ← HK.out, stp]
      case measure => simp [intOf]; omega
    · obtain rfl : i = 64 := by omega
      have c0 : wr.cell? ⟨w.heap.size, 0, none⟩ = some (.int .u32 (h0.toNat : Int)) := by rw [B1.cell]; rfl
      have c1 : wr.cell? ⟨w.heap.size, 1, none⟩ = some (.int .u32 (h1.toNat : Int)) := by rw [B1.cell]; rfl
      have c2 : wr.cell? ⟨w.heap.size, 2, none⟩ = some (.int .u32 (h2.toNat : Int)) := by rw [B1.cell]; rfl
      have c3 : wr.cell? ⟨w.heap.size, 3, none⟩ = some (.int .u32 (h3.toNat : Int)) := by rw [B1.cell]; rfl
      have c4 : wr.cell? ⟨w.heap.size, 4, none⟩ = some (.int .u32 (h4.toNat : Int)) := by rw [B1.cell]; rfl
      have c5 : wr.cell? ⟨w.heap.size, 5, none⟩ = some (.int .u32 (h5.toNat : Int)) := by rw [B1.cell]; rfl
      have c6 : wr.cell? ⟨w.heap.size, 6, none⟩ = some (.int .u32 (h6.toNat : Int)) := by rw [B1.cell]; rfl
      have c7 : wr.cell? ⟨w.heap.size, 7, none⟩ = some (.int .u32 (h7.toNat : Int)) := by rw [B1.cell]; rfl
      have hfin : takeHK [h0, h1, h2, h3, h4, h5, h6, h7] ws ks = [h0 + a, h1 + b, h2 + c, h3 + d, h4 + e, h5 + f, h6 + g, h7 + z] := by rw [takeHK, HV.out]; rfl
      have HF := Lib.hid hfin
      have HB4 := Lib.hid B4
      have HB := Lib.hid hb
      clear B1 B2 B3 B4 hb hfin
      go_wp2_with ((with_reducible show wpList _ _ _ (Oper.mk none (Op.store 26 _ _) _ _ _ _ :: _) _ _); refine wpList_store32 rfl 26 (.tmp 6) (.tmp 129) rfl (w.heap.size + 3) rfl [h0 + a, h1 + b, h2 + c, h3 + d, h4 + e, h5 + f, h6 + g, h7 + z] (by show Value.agg #[.int .u32 (((h0.toNat : Int) + (a.toNat : Int)) % 4294967296), .int .u32 (((h1.toNat : Int) + (b.toNat : Int)) % 4294967296), .int .u32 (((h2.toNat : Int) + (c.toNat : Int)) % 4294967296), .int .u32 (((h3.toNat : Int) + (d.toNat : Int)) % 4294967296), .int .u32 (((h4.toNat : Int) + (e.toNat : Int)) % 4294967296), .int .u32 (((h5.toNat : Int) + (f.toNat : Int)) % 4294967296), .int .u32 (((h6.toNat : Int) + (g.toNat : Int)) % 4294967296), .int .u32 (((h7.toNat : Int) + (z.toNat : Int)) % 4294967296)] = _; simp only [add32m]; rfl) agg26 rfl _ _ HB4.out (by rw [size_arr32, len_z32]) ?_; intro w9 hb9 hg9 hs9)
      refine bodyPost_ret (results_cell_one rfl _ (w.heap.size + 3) _ (arr32 _) agg26 rfl rfl hb9) rfl ⟨by rw [HF.out], ?_⟩
      exact HB.out.grown hg9 hz (fun k hk => by cases hk; omega)
end Go.Proofs.Ytbphoilfiahnpaa
