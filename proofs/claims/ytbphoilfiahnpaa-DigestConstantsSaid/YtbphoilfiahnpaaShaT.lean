/-
  digest.Take: what eight words become with a schedule.
-/
import Derived.Test.YtbphoilfiahnpaaShaK
import Derived.Test.YtbphoilfiahnpaaArr2
namespace Go.Proofs.Ytbphoilfiahnpaa
open Go.RowKit
set_option linter.unusedVariables false
set_option maxRecDepth 100000

/-- What is added to the fourth word, and to the first. -/
def tee (e f g z k w : UInt32) : UInt32 := z + (rotR e 6 ^^^ rotR e 11 ^^^ rotR e 25) + (g ^^^ (e &&& (f ^^^ g))) + k + w
def yoo (a b c : UInt32) : UInt32 := (rotR a 2 ^^^ rotR a 13 ^^^ rotR a 22) + (a &&& b ||| c &&& (a ||| b))
/-- One step. -/
def stp (v : List UInt32) (k w : UInt32) : List UInt32 :=
  match v with
  | [a, b, c, d, e, f, g, z] => [tee e f g z k w + yoo a b c, a, b, c, d + tee e f g z k w, e, f, g]
  | _ => v
/-- i steps. -/
def takeTo (h w k : List UInt32) : Nat → List UInt32
  | 0 => h
  | i + 1 => stp (takeTo h w k i) (k[i]?.getD 0) (w[i]?.getD 0)
theorem len_stp (v : List UInt32) (k w : UInt32) : (stp v k w).length = v.length := by
  unfold stp
  split <;> rfl
theorem len_takeTo (h w k : List UInt32) (i : Nat) : (takeTo h w k i).length = h.length := by
  induction i with
  | zero => rfl
  | succ i ih => rw [takeTo, len_stp, ih]
/-- A schedule is taken. -/
def takeH (h w : List UInt32) : List UInt32 := List.zipWith (· + ·) h (takeTo h w K64 64)
theorem len_takeH (h w : List UInt32) (hh : h.length = 8) : (takeH h w).length = 8 := by
  rw [takeH, List.length_zipWith, len_takeTo, hh]; rfl
theorem eight {v : List UInt32} (h : v.length = 8) : ∃ a b c d e f g z, v = [a, b, c, d, e, f, g, z] := by
  match v, h with
  | [a, b, c, d, e, f, g, z], _ => exact ⟨a, b, c, d, e, f, g, z, rfl⟩

theorem info4 : (Try.prog.info? 23).map (·.size) = some 1 := by kernel_rfl
theorem size4 (w : World) : (sizeOf 23).run Try.prog w = .ok 1 w := by kernel_rfl

/-- The first j words are sums already. -/
def midH (hs T : List UInt32) (j : Nat) : List UInt32 := (List.zipWith (· + ·) hs T).take j ++ hs.drop j
theorem midH_get (hs T : List UInt32) (j : Nat) (hj : j < hs.length) (hl : T.length = hs.length) : (midH hs T j)[j]? = hs[j]? := by
  rw [midH, List.getElem?_append_right (by rw [List.length_take]; exact Nat.min_le_left _ _), List.length_take, List.length_zipWith, hl, Nat.min_self, Nat.min_eq_left (Nat.le_of_lt hj), List.getElem?_drop, Nat.sub_self, Nat.add_zero]
theorem midH_set (hs T : List UInt32) (j : Nat) (hj : j < hs.length) (hl : T.length = hs.length) : (arr32 (midH hs T j)).setIfInBounds j (.int .u32 ((hs[j]?.getD 0 + T[j]?.getD 0).toNat : Int)) = arr32 (midH hs T (j + 1)) := by
  rw [arr32, arr32, ← b32_def, List.setIfInBounds_toArray, ← List.map_set]
  congr 2
  have hz : j < (List.zipWith (· + ·) hs T).length := by rw [List.length_zipWith, hl, Nat.min_self]; exact hj
  have h1 : (List.take j (List.zipWith (· + ·) hs T)).length = j := by rw [List.length_take]; omega
  rw [midH, List.set_append_right _ _ (by rw [h1]; exact Nat.le_refl _), h1, Nat.sub_self, List.drop_eq_getElem_cons hj, List.set_cons_zero, midH, List.take_succ_eq_append_getElem hz, List.append_assoc]
  congr 1
  rw [List.getElem_zipWith, List.getElem?_eq_getElem hj, List.getElem?_eq_getElem (by rw [hl]; exact hj)]
  rfl
theorem tee_walk (e f g z k x : UInt32) : ((z.toNat : Int) + bits .xor .u32 (bits .xor .u32 ((rotR e 6).toNat : Int) ((rotR e 11).toNat : Int)) ((rotR e 25).toNat : Int) +
    bits .xor .u32 (g.toNat : Int) (bits .and .u32 (e.toNat : Int) (bits .xor .u32 (f.toNat : Int) (g.toNat : Int))) + (k.toNat : Int) + (x.toNat : Int)) % 4294967296 = ((tee e f g z k x).toNat : Int) := by
  rw [xor32, xor32, xor32, and32, xor32, tee, UInt32.toNat_add, UInt32.toNat_add, UInt32.toNat_add, UInt32.toNat_add]
  omega
theorem yoo_walk (a b c : UInt32) : (bits .xor .u32 (bits .xor .u32 ((rotR a 2).toNat : Int) ((rotR a 13).toNat : Int)) ((rotR a 22).toNat : Int) +
    bits .or .u32 (bits .and .u32 (a.toNat : Int) (b.toNat : Int)) (bits .and .u32 (c.toNat : Int) (bits .or .u32 (a.toNat : Int) (b.toNat : Int)))) % 4294967296 = ((yoo a b c).toNat : Int) := by
  rw [xor32, xor32, and32, or32, and32, or32, yoo, UInt32.toNat_add]
  omega

set_option maxHeartbeats 2000000 in
theorem take_c (hs ws : List UInt32) (hh : hs.length = 8) (hw : ws.length = 64) (w : World) :
    Calls Try.prog 30 #[.agg (arr32 hs), .agg (arr32 ws)] w fun e w' => e = .returned (.agg (arr32 (takeH hs ws))) ∧ Below w.heap.size w w' := by
  have HH := Lib.hid hh
  have HW := Lib.hid hw
  have b1 := Blk.new w 26 (arr32 hs)
  have b2 := Blk.new (w.alloc (.cells (arr32 hs) 26)) 24 (arr32 ws)
  have b3 := Blk.new ((w.alloc (.cells (arr32 hs) 26)).alloc (.cells (arr32 ws) 24)) 26 (arr32 (z32 8))
  have b4 := Blk.new (((w.alloc (.cells (arr32 hs) 26)).alloc (.cells (arr32 ws) 24)).alloc (.cells (arr32 (z32 8)) 26)) 26 (arr32 (z32 8))
  simp only [World.size_alloc] at b2 b3 b4
  have B1 := ((b1.alloc (.cells (arr32 ws) 24)).alloc (.cells (arr32 (z32 8)) 26))
  have B1' := B1.alloc (.cells (arr32 (z32 8)) 26)
  have B2' := (b2.alloc (.cells (arr32 (z32 8)) 26)).alloc (.cells (arr32 (z32 8)) 26)
  have B3' := b3.alloc (.cells (arr32 (z32 8)) 26)
  have hb : Below w.heap.size w ((((w.alloc (.cells (arr32 hs) 26)).alloc (.cells (arr32 ws) 24)).alloc (.cells (arr32 (z32 8)) 26)).alloc (.cells (arr32 (z32 8)) 26)) := ((((Below.refl _ _).alloc (Nat.le_refl _) _).alloc (by simp) _).alloc (by simp; omega) _).alloc (by simp; omega) _
  clear hh hw b1 b2 b3
  go_enter Try.func30, Try.ntmps30
  go_wp2_with (first
    | ((with_reducible show wpList _ _ _ (Oper.mk _ (Op.alloc 26) _ _ _ _ :: _) _ _); refine wpList_alloc_agg rfl 26 rfl (arr32 (z32 8)) zero26 ?_; (try simp only [World.size_alloc]))
    | ((with_reducible show wpList _ _ _ (Oper.mk _ (Op.load 26 _) _ _ _ _ :: _) _ _); refine wpList_load_whole rfl 26 (.tmp 2) rfl w.heap.size rfl (arr32 hs) agg26 (by rw [size_arr32, HH.out]) 26 B1 ?_)
    | ((with_reducible show wpList _ _ _ (Oper.mk none (Op.store 26 _ _) _ _ _ _ :: _) _ _); (refine wpList_store32 rfl 26 (.tmp 5) (.tmp 16) rfl (w.heap.size + 3) rfl hs rfl agg26 HH.out _ _ b4 (by rw [size_arr32, len_z32]) ?_; intro w5 hb5 hg5 hs5))
    | (go_at_call 20; refine (constants_c _).mono ?_; rintro e w6 ⟨rfl, hb6⟩))
  have hbw : Below w.heap.size w w6 := (hb.grown hg5 (by simp; omega) (fun k hk => by cases hk; omega)).trans (hb6.mono (by rw [hs5]; simp; omega))
  have C1 : Blk w6 w.heap.size 26 (arr32 hs) := Blk.below (B1'.grown hg5 (by simp)) hb6 (by rw [hs5]; simp; omega)
  have C2 : Blk w6 (w.heap.size + 1) 24 (arr32 ws) := Blk.below (B2'.grown hg5 (by simp)) hb6 (by rw [hs5]; simp)
  have C3 : Blk w6 (w.heap.size + 2) 26 (arr32 (z32 8)) := Blk.below (B3'.grown hg5 (by simp)) hb6 (by rw [hs5]; simp)
  have C5 : Blk w6 (w.heap.size + 3) 26 (arr32 hs) := Blk.below hb5 hb6 (by rw [hs5]; simp)
  clear hb5 hg5 hs5 hb6 hb B1 B1' B2' B3' b4
  go_loopw [18] (fun v18 wr => ∃ i : Nat, i ≤ 64 ∧ v18 = .int .i64 (i : Int) ∧ Blk wr w.heap.size 26 (arr32 hs) ∧ Blk wr (w.heap.size + 1) 24 (arr32 ws) ∧
      Blk wr (w.heap.size + 2) 26 (arr32 (z32 8)) ∧ Blk wr (w.heap.size + 3) 26 (arr32 (takeTo hs ws K64 i)) ∧ Below w.heap.size w wr) (fun v18 _ => 64 - (intOf v18).toNat)
  case atStart => exact ⟨0, by omega, rfl, C1, C2, C3, C5, hbw⟩
  case round =>
    clear C1 C2 C3 C5 hbw
    obtain ⟨i, hi, rfl, C1, C2, C3, C5, hb⟩ := hrel
    have hz := hb.size
    by_cases hlt : i < 64
    · obtain ⟨a, b, c, d, e, f, g, z, hv⟩ := eight ((len_takeTo hs ws K64 i).trans HH.out)
      rw [hv] at C5
      have HV := Lib.hid hv
      have HC1 := Lib.hid C1
      have HC2 := Lib.hid C2
      have HC3 := Lib.hid C3
      have HC5 := Lib.hid C5
      have HB := Lib.hid hb
      have hK : i < K64.length := hlt
      have hkw : (arr32 K64)[i]? = some (.int .u32 ((K64[i]?.getD 0).toNat : Int)) := by
        rw [arr32_get, List.getElem?_eq_getElem hK]; rfl
      have hww : (arr32 ws)[i]? = some (.int .u32 ((ws[i]?.getD 0).toNat : Int)) := by
        rw [arr32_get, List.getElem?_eq_getElem (by rw [HW.out]; exact hlt)]; rfl
      have hcw : wr.cell? ⟨w.heap.size + 1, i, none⟩ = some (.int .u32 ((ws[i]?.getD 0).toNat : Int)) := by rw [C2.cell, hww]
      obtain ⟨x, hx⟩ : ∃ x, x = ws[i]?.getD 0 := ⟨_, rfl⟩
      obtain ⟨k, hk⟩ : ∃ k, k = K64[i]?.getD 0 := ⟨_, rfl⟩
      rw [← hx] at hcw
      rw [← hk] at hkw
      have HX := Lib.hid hx
      have HK := Lib.hid hk
      have hix := fun W => arr_index_run (P := Try.prog) Try.underlying24 Try.underlying23 size4 (arr32 K64) i hlt _ hkw W
      have c0 : wr.cell? ⟨w.heap.size + 3, 0, none⟩ = some (.int .u32 (a.toNat : Int)) := by rw [C5.cell]; rfl
      have c1 : wr.cell? ⟨w.heap.size + 3, 1, none⟩ = some (.int .u32 (b.toNat : Int)) := by rw [C5.cell]; rfl
      have c2 : wr.cell? ⟨w.heap.size + 3, 2, none⟩ = some (.int .u32 (c.toNat : Int)) := by rw [C5.cell]; rfl
      have c4 : wr.cell? ⟨w.heap.size + 3, 4, none⟩ = some (.int .u32 (e.toNat : Int)) := by rw [C5.cell]; rfl
      have c5 : wr.cell? ⟨w.heap.size + 3, 5, none⟩ = some (.int .u32 (f.toNat : Int)) := by rw [C5.cell]; rfl
      have c6 : wr.cell? ⟨w.heap.size + 3, 6, none⟩ = some (.int .u32 (g.toNat : Int)) := by rw [C5.cell]; rfl
      have c7 : wr.cell? ⟨w.heap.size + 3, 7, none⟩ = some (.int .u32 (z.toNat : Int)) := by rw [C5.cell]; rfl
      have hi0 : (0 : Int) ≤ (i : Int) := by omega
      have hi1 : (i : Int) < 64 := by omega
      clear hv hx hk hkw hww hK C1 C2 C3 C5 hb
      go_wp2_with fail
      go_quiet (fail)
      generalize nq = q1
      go_wp2_with fail
      go_quiet ((go_at_call 55; exact quiet_add_left (rotr_c _ _ (by omega) (by omega) _)))
      go_wp2_with (go_at_call 55; refine (rotr_c _ _ (by omega) (by omega) _).mono ?_; rintro e w' ⟨rfl, rfl⟩)
      rw [tee_walk, yoo_walk]
      generalize hT : tee e f g z k x = t
      generalize hU : yoo a b c = u
      have HT := Lib.hid hT
      have HU := Lib.hid hU
      clear hT hU
      refine wp_region_still_tail 2 (by kernel_rfl) (by kernel_rfl) ?_
      simp only [List.take_succ_cons, List.take_zero, List.drop_succ_cons, List.drop_zero]
      change wpStill _ _ (wr.drewN _).drew (fun a' => wpList _ _ _ _ a' (wr.drewN _).drew) _ _
      repeat still_step
      refine wpStill_nil ?_
      obtain ⟨w2, hw2⟩ : ∃ w2, w2 = (wr.drewN (q1 + nq)).drew := ⟨_, rfl⟩
      rw [← hw2]
      have D1 : Hid (Blk w2 w.heap.size 26 (arr32 hs)) := Lib.hid (by rw [hw2]; exact HC1.out)
      have D2 : Hid (Blk w2 (w.heap.size + 1) 24 (arr32 ws)) := Lib.hid (by rw [hw2]; exact HC2.out)
      have D3 : Hid (Blk w2 (w.heap.size + 2) 26 (arr32 (z32 8))) := Lib.hid (by rw [hw2]; exact HC3.out)
      have D5 : Blk w2 (w.heap.size + 3) 26 (arr32 [a, b, c, d, e, f, g, z]) := by rw [hw2]; exact HC5.out
      have DB : Hid (Below w.heap.size w w2) := Lib.hid (by rw [hw2]; exact (below_drewN HB.out _).drew)
      clear hw2 c0 c1 c2 c4 c5 c6 c7 hcw hix
      have hsl : Sl w2 (w.heap.size + 4) 1 (some ⟨w.heap.size + 3, 0, none⟩) 7 8 ([a, b, c, d, e, f, g].map b32) := ⟨rfl, by omega, by simp [maxLen], fun _ => ⟨w.heap.size + 3, 0, rfl, by omega, fun j v hv => by
        rw [D5.cell, Nat.zero_add, ← hv, arr32_get]
        match j, hv with
        | 0, _ => rfl
        | 1, _ => rfl
        | 2, _ => rfl
        | 3, _ => rfl
        | 4, _ => rfl
        | 5, _ => rfl
        | 6, _ => rfl
        | n + 7, hv => simp at hv⟩⟩
      refine wpList_copy_blk rfl (.tmp 76) (.tmp 77) 80 rfl Try.underlying80 info4 rfl D5 rfl hsl (by rw [size_arr32]; exact Nat.le_refl _) (fun u hu => by obtain ⟨x, _, rfl⟩ := List.mem_map.1 hu; rfl) ?_
      intro w3 hb3 hg3 hs3
      have E5 : Blk w3 (w.heap.size + 3) 26 (arr32 [a, a, b, c, d, e, f, g]) := hb3
      have E1 : Hid (Blk w3 w.heap.size 26 (arr32 hs)) := Lib.hid (D1.out.grown hg3 (by simp; omega))
      have E2 : Hid (Blk w3 (w.heap.size + 1) 24 (arr32 ws)) := Lib.hid (D2.out.grown hg3 (by simp))
      have E3 : Hid (Blk w3 (w.heap.size + 2) 26 (arr32 (z32 8))) := Lib.hid (D3.out.grown hg3 (by simp))
      have EB : Hid (Below w.heap.size w w3) := Lib.hid (DB.out.grown hg3 DB.out.size (fun k hk => by cases hk; omega))
      have f4 : w3.cell? ⟨w.heap.size + 3, 4, none⟩ = some (.int .u32 (d.toNat : Int)) := by rw [E5.cell]; rfl
      have f0 : w3.cell? ⟨w.heap.size + 3, 0, none⟩ = some (.int .u32 (a.toNat : Int)) := by rw [E5.cell]; rfl
      have g4 := E5.frozen 4
      have g0 := E5.frozen 0
      have HE5 := Lib.hid E5
      clear E5 hb3 hg3 hs3 hsl D5 D1 D2 D3 DB
      go_wp2_with fail
      go_roundw
      case rel =>
        have e1 : ((d.toNat : Int) + (t.toNat : Int)) % 4294967296 = ((d + t).toNat : Int) := by rw [← add32, IntKind.wrap_u32']
        have e2 : ((t.toNat : Int) + (u.toNat : Int)) % 4294967296 = ((t + u).toNat : Int) := by rw [← add32, IntKind.wrap_u32']
        have e3 : takeTo hs ws K64 (i + 1) = [t + u, a, b, c, d + t, e, f, g] := by rw [takeTo, HV.out, ← HK.out, ← HX.out, stp, HT.out, HU.out]
        rw [e1, e2]
        refine ⟨i + 1, by omega, by go_num, (E1.out.far (by simp; omega) _).far (by simp; omega) _, (E2.out.far (by simp) _).far (by simp) _, (E3.out.far (by simp) _).far (by simp) _, ?_, (EB.out.setCell (by simp; omega) _).setCell (by simp; omega) _⟩
        rw [e3]
        exact (HE5.out.set_ 4 _).set_ 0 _
      case measure => simp [intOf]; omega
    · obtain rfl : i = 64 := by omega
      obtain ⟨T, hT⟩ : ∃ T, T = takeTo hs ws K64 64 := ⟨_, rfl⟩
      have hTl : T.length = 8 := by rw [hT, len_takeTo, HH.out]
      have hres : takeH hs ws = List.zipWith (· + ·) hs T := by rw [takeH, ← hT]
      rw [← hT] at C5
      have HTl := Lib.hid hTl
      have HR := Lib.hid hres
      clear hT hTl hres
      go_wp2_with ((with_reducible show wpList _ _ _ (Oper.mk (some 89) (Op.load 26 _) _ _ _ _ :: _) _ _); refine wpList_load_whole rfl 26 (.tmp 5) rfl (w.heap.size + 3) rfl (arr32 T) agg26 (by rw [size_arr32, HTl.out]) 26 C5 ?_)
      obtain ⟨wo, hwo⟩ : ∃ wo : World, wo = wr := ⟨_, rfl⟩
      rw [← hwo] at C1 C3 hb hz ⊢
      clear C2 C5 hwo wr
      have hmid0 : hs = midH hs T 0 := rfl
      rw [hmid0] at C1
      have HC1 := Lib.hid C1
      have HC3 := Lib.hid C3
      have HB := Lib.hid hb
      clear C1 C3 hb hmid0
      go_loopw [90] (fun v90 wr => ∃ j : Nat, j ≤ 8 ∧ v90 = .int .i64 (j : Int) ∧ Blk wr w.heap.size 26 (arr32 (midH hs T j)) ∧ Blk wr (w.heap.size + 2) 26 (arr32 (z32 8)) ∧ Below w.heap.size w wr) (fun v90 _ => 8 - (intOf v90).toNat)
      case atStart => exact ⟨0, by omega, rfl, HC1.out, HC3.out, HB.out⟩
      case round =>
        obtain ⟨j, hj, rfl, C1, C3, hb⟩ := hrel
        have hzr := hb.size
        by_cases hlt : j < 8
        · have hTj : (arr32 T)[j]? = some (.int .u32 ((T[j]?.getD 0).toNat : Int)) := by
            rw [arr32_get, List.getElem?_eq_getElem (by rw [HTl.out]; exact hlt)]; rfl
          have hix := fun W => arr_index_run (P := Try.prog) Try.underlying26 Try.underlying23 size4 (arr32 T) j hlt _ hTj W
          have hcj : wr.cell? ⟨w.heap.size, j, none⟩ = some (.int .u32 ((hs[j]?.getD 0).toNat : Int)) := by
            rw [C1.cell, arr32_get, midH_get _ _ _ (by rw [HH.out]; exact hlt) (by rw [HTl.out, HH.out]), List.getElem?_eq_getElem (by rw [HH.out]; exact hlt)]; rfl
          have hfj := C1.frozen j
          have hset := midH_set hs T j (by rw [HH.out]; exact hlt) (by rw [HTl.out, HH.out])
          have HSET := Lib.hid hset
          have HC1' := Lib.hid C1
          have HC3' := Lib.hid C3
          have HB' := Lib.hid hb
          generalize hs[j]?.getD 0 = p at *
          generalize T[j]?.getD 0 = q at *
          clear C1 C3 hb hTj hset
          go_wp2_with fail
          go_roundw
          case rel =>
            have e1 : ((p.toNat : Int) + (q.toNat : Int)) % 4294967296 = ((p + q).toNat : Int) := by rw [← add32, IntKind.wrap_u32']
            rw [e1]
            refine ⟨j + 1, by omega, by go_num, ?_, HC3'.out.far (by simp) _, HB'.out.setCell (by simp) _⟩
            rw [← HSET.out]
            exact HC1'.out.set_ j _
          case measure => simp [intOf]; omega
        · obtain rfl : j = 8 := by omega
          have hfin : midH hs T 8 = takeH hs ws := by rw [HR.out, midH, List.drop_of_length_le (by rw [HH.out]; exact Nat.le_refl _), List.take_of_length_le (by rw [List.length_zipWith, HH.out, HTl.out]; exact Nat.le_refl _), List.append_nil]
          rw [hfin] at C1
          have hl8 := Lib.hid (len_takeH hs ws HH.out)
          have HB' := Lib.hid hb
          clear hb hfin
          go_wp2_with (first
            | ((with_reducible show wpList _ _ _ (Oper.mk (some 101) (Op.load 26 _) _ _ _ _ :: _) _ _); refine wpList_load_whole rfl 26 (.tmp 2) rfl w.heap.size rfl (arr32 (takeH hs ws)) agg26 (by rw [size_arr32, hl8.out]) 26 C1 ?_)
            | ((with_reducible show wpList _ _ _ (Oper.mk none (Op.store 26 _ _) _ _ _ _ :: _) _ _); refine wpList_store32 rfl 26 (.tmp 4) (.tmp 101) rfl (w.heap.size + 2) rfl (takeH hs ws) rfl agg26 hl8.out _ _ C3 (by rw [size_arr32, len_z32]) ?_; intro w9 hb9 hg9 hs9))
          refine bodyPost_ret (results_cell_one rfl _ (w.heap.size + 2) _ (arr32 (takeH hs ws)) agg26 (by rw [size_arr32, hl8.out]) rfl hb9) rfl ⟨rfl, ?_⟩
          exact HB'.out.grown hg9 hzr (fun k hk => by cases hk; omega)
end Go.Proofs.Ytbphoilfiahnpaa
