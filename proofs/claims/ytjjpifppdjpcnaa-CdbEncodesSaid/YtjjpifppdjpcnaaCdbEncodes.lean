/-
  CdbEncodes: which bytes every command has (printed by wip/gen_claw.py).
-/
import Derived.Test.YtjjpifppdjpcnaaCdbLaw
import Derived.Test.YtjjpifppdjpcnaaErr
namespace Go.Proofs.Ytjjpifppdjpcnaa.cdbEncodes
open Go.RowKit
set_option linter.unusedVariables false
set_option linter.unusedSimpArgs false
set_option maxRecDepth 100000

theorem len_cmB {kind unit block many op key new ty : Int} {st : Bool} {ds : List UInt8} : (cmB kind unit block many op key new ty st ds).length ≤ 25 + ds.length := by
  rw [cmB, List.length_append, len_fbytes, cmF]
  split
  · rw [show fsize (fl4 kind unit block many ++ fl5 op key new ty st) = 25 from rfl]; omega
  · rw [show fsize (fl4 kind unit block many) = 6 from rfl]; omega
set_option maxHeartbeats 4000000 in
theorem walk (cs0 : List Value) (w : World) (R0 : Rds w (.cons (.int .i64) (.cons (.int .i64) (.cons (.int .i64) (.cons (.int .i64) (.cons (.slice (.int .u8) 1 1) (.cons (.cons (.int .i64) (.cons (.int .i64) (.cons (.int .i64) (.cons (.int .i64) (.cons (.int .i64) (.cons .bool .nil)))))) .nil)))))) cs0) :
    Calls Try.prog 8 #[.agg cs0.toArray] w fun e w' => e = .returned (.bool true) ∧ Below w.heap.size w w' := by
  obtain ⟨_, _, rfl, r0, _, _, rfl, r1, _, _, rfl, r2, _, _, rfl, r3, _, _, rfl, r4, _, _, rfl, r5, rfl⟩ := R0
  obtain ⟨kind, rfl, hx0⟩ := r0
  obtain ⟨unit, rfl, hx1⟩ := r1
  obtain ⟨block, rfl, hx2⟩ := r2
  obtain ⟨many, rfl, hx3⟩ := r3
  obtain ⟨A, m, c, ds, rfl, w4, y4⟩ := Rds.bytes r4
  obtain ⟨_, _, rfl, s0, _, _, rfl, s1, _, _, rfl, s2, _, _, rfl, s3, _, _, rfl, s4, _, _, rfl, s5, rfl⟩ := r5
  obtain ⟨op, rfl, hy0⟩ := s0
  obtain ⟨who, rfl, hy1⟩ := s1
  obtain ⟨key, rfl, hy2⟩ := s2
  obtain ⟨new, rfl, hy3⟩ := s3
  obtain ⟨ty, rfl, hy4⟩ := s4
  obtain ⟨st, rfl⟩ := s5
  clear r4
  simp only [List.cons_append, List.nil_append, List.append_nil]
  have HX := Lib.hid (show (Lit.int .i64 kind).wf = true ∧ (Lit.int .i64 unit).wf = true ∧ (Lit.int .i64 block).wf = true ∧ (Lit.int .i64 many).wf = true from ⟨hx0, hx1, hx2, hx3⟩)
  have HY := Lib.hid (show (Lit.int .i64 op).wf = true ∧ (Lit.int .i64 key).wf = true ∧ (Lit.int .i64 new).wf = true ∧ (Lit.int .i64 ty).wf = true from ⟨hy0, hy2, hy3, hy4⟩)
  have hmx := w4.mx
  have hmc := w4.le
  have LENB := Lib.hid (show (cmB kind unit block many op key new ty st ds).length ≤ 25 + m by have := len_cmB (kind := kind) (unit := unit) (block := block) (many := many) (op := op) (key := key) (new := new) (ty := ty) (st := st) (ds := ds); have := w4.len; omega)
  obtain ⟨g1, hg1⟩ : ∃ g, g = w.heap.size := ⟨_, rfl⟩
  obtain ⟨v, hv⟩ : ∃ v, v = w.alloc (.cells #[.int .i64 kind, .int .i64 unit, .int .i64 block, .int .i64 many, .slice A m c, .int .i64 op, .int .i64 who, .int .i64 key, .int .i64 new, .int .i64 ty, .bool st] 56) := ⟨_, rfl⟩
  have b1 : Blk v g1 56 #[.int .i64 kind, .int .i64 unit, .int .i64 block, .int .i64 many, .slice A m c, .int .i64 op, .int .i64 who, .int .i64 key, .int .i64 new, .int .i64 ty, .bool st] := by rw [hv, hg1]; exact Blk.new _ _ _
  have hbv : Below w.heap.size w v := by rw [hv]; exact below_alloc _ _
  have hz := hbv.size
  have hgv := b1.lt
  have HD := Lib.hid (w4.below hbv)
  have HV := Lib.hid hv
  have HG := Lib.hid hg1
  have HB1 := Lib.hid b1
  clear hv hg1 w4 b1 hx0 hx1 hx2 hx3 hy0 hy1 hy2 hy3 hy4
  go_enter Try.func8, Try.ntmps8
  go_wp2_with (first
    | (go_at_call 28; rw [← HV.out, ← HG.out]; refine (example_c v).mono ?_; rintro e w0 ⟨rfl, hb0⟩; have hz0 := hb0.size)
    | (go_at_call 27; refine (cenc_ex w0).mono ?_; rintro e w1 ⟨A1, c1, rfl, ho1, hb1⟩; have hv1 := hb0.trans (hb1.mono hz0); have hz1 := hv1.size; have e19 := ho1.sl.str; have b11 := HB1.out.below hv1 hgv)
    | ((with_reducible show wpList _ _ _ (Oper.mk (some 22) (Op.load 56 (.tmp 1)) _ _ _ _ :: _) _ _); refine wpList_load_whole rfl 56 (.tmp 1) rfl g1 rfl #[.int .i64 kind, .int .i64 unit, .int .i64 block, .int .i64 many, .slice A m c, .int .i64 op, .int .i64 who, .int .i64 key, .int .i64 new, .int .i64 ty, .bool st] aggCm rfl _ b11 ?_))
  obtain ⟨r, hr⟩ : ∃ r, decide ((16384 : Int) < (m : Int)) = r := ⟨_, rfl⟩
  refine (large15_c kind unit block many op who key new ty st hmx r hr).mono ?_
  rintro e w2 ⟨rfl, hb2⟩
  have hv2 := hv1.trans (hb2.mono hz1)
  have hz2 := hv2.size
  have HB2 := Lib.hid (HB1.out.below hv2 hgv)
  have hbw2 := hbv.trans (hv2.mono hz)
  have d4 : w2.cell? ⟨g1, 4, none⟩ = some (.slice A m c) := by rw [HB2.out.cell]; rfl
  clear e19 ho1 b11
  cases r with
  | true =>
    go_wp2_with fail
    go_ret
    exact ⟨rfl, hbw2⟩
  | false =>
    have hbi : ¬ (16384 : Int) < (m : Int) := of_decide_eq_false hr
    have bn := Blk.new w2 56 #[.int .i64 0, .int .i64 0, .int .i64 0, .int .i64 0, .slice none 0 0, .int .i64 0, .int .i64 0, .int .i64 0, .int .i64 0, .int .i64 0, .bool false]
    clear hr
    by_cases hok : goodC kind unit block many m op who key new ty st
    · have HOK := Lib.hid hok
      clear hok
      go_wp2_with (first
        | ((with_reducible show wpList _ _ _ (Oper.mk (some 24) (Op.load 56 (.tmp 1)) _ _ _ _ :: _) _ _); refine wpList_load_whole rfl 56 (.tmp 1) rfl g1 rfl #[.int .i64 kind, .int .i64 unit, .int .i64 block, .int .i64 many, .slice A m c, .int .i64 op, .int .i64 who, .int .i64 key, .int .i64 new, .int .i64 ty, .bool st] aggCm rfl _ HB2.out ?_)
        | ((with_reducible show wpList _ _ _ (Oper.mk _ (Op.alloc 56) _ _ _ _ :: _) _ _); refine wpList_alloc_agg rfl 56 rfl #[.int .i64 0, .int .i64 0, .int .i64 0, .int .i64 0, .slice none 0 0, .int .i64 0, .int .i64 0, .int .i64 0, .int .i64 0, .int .i64 0, .bool false] zeroCm ?_)
        | ((with_reducible show wpList _ _ _ (Oper.mk none (Op.store 56 _ _) _ _ _ _ :: _) _ _); refine wpList_store_whole rfl 56 (.tmp 5) (.tmp 24) rfl w2.heap.size rfl [.int .i64 kind, .int .i64 unit, .int .i64 block, .int .i64 many, .slice A m c, .int .i64 op, .int .i64 who, .int .i64 key, .int .i64 new, .int .i64 ty, .bool st] rfl aggCm rfl _ _ bn rfl (by simp [Value.oneCell']) ?_; intro v3 b3 gb sb; have h23 : Below w2.heap.size w2 v3 := (below_alloc _ _).grown gb (by simp) (fun k hk => by cases hk; exact Nat.le_refl _); have hv3 := hv2.trans (h23.mono hz2); have hz3 := hv3.size; have e13 : v3.cell? ⟨g1, 4, none⟩ = some (.slice A m c) := (by rw [(HB1.out.below hv3 hgv).cell]; rfl); have hg53 := b3.lt; clear gb sb)
        | (go_at_call 15; refine (copy_c (HD.out.below (hv3.mono hz)) (Nat.le_trans hz hz3) (by omega)).mono ?_; rintro e w4 ⟨rfl, hoc, hb4⟩; have b4 := b3.below hb4 b3.lt; have k4 : w4.cell? ⟨w2.heap.size, 4, none⟩ = some (.slice A m c) := (by rw [b4.cell]; rfl); have f4 := b4.frozen 4; have hv4 := hv3.trans (hb4.mono hz3); obtain ⟨V5, hV5⟩ : ∃ V5, V5 = w4.setCell ⟨w2.heap.size, 4, none⟩ (.slice (some ⟨v3.heap.size, 0, none⟩) m (m + 2)) := ⟨_, rfl⟩; have b5 : Blk V5 w2.heap.size 56 #[.int .i64 kind, .int .i64 unit, .int .i64 block, .int .i64 many, .slice (some ⟨v3.heap.size, 0, none⟩) m (m + 2), .int .i64 op, .int .i64 who, .int .i64 key, .int .i64 new, .int .i64 ty, .bool st] := (by rw [hV5]; simpa using b4.set_ 4 (.slice (some ⟨v3.heap.size, 0, none⟩) m (m + 2))); have hom5 : OwB V5 v3.heap.size (some ⟨v3.heap.size, 0, none⟩) (m + 2) (m + 2) (ds ++ [0xa5, 0x5a]) := (by rw [hV5]; exact Row.keepRow hoc (grownBy_setCell _ w2.heap.size 4 _) (.inr (by simp [wrote]; omega))); have hv5 : Below v.heap.size v V5 := (by rw [hV5]; exact hv4.setCell (p := ⟨w2.heap.size, 4, none⟩) hz2 _); have hz5 := hv5.size; have HOC := Lib.hid (copy_own hom5 HD.out.len); have hcb : v3.heap.size < V5.heap.size := own_lt hom5 (by omega))
        | ((with_reducible show wpList _ _ _ (Oper.mk (some 30) (Op.load 56 (.tmp 5)) _ _ _ _ :: _) _ _); rw [← hV5]; refine wpList_load_whole rfl 56 (.tmp 5) rfl w2.heap.size rfl #[.int .i64 kind, .int .i64 unit, .int .i64 block, .int .i64 many, .slice (some ⟨v3.heap.size, 0, none⟩) m (m + 2), .int .i64 op, .int .i64 who, .int .i64 key, .int .i64 new, .int .i64 ty, .bool st] aggCm rfl _ b5 ?_)
        | (go_at_call 27; (try rw [← hV5]); refine (cenc_yes kind unit block many op who key new ty st HOC.out.sl (Nat.le_refl _) (by omega) HX.out HY.out HOK.out).mono ?_; rintro e w6 ⟨A6, N6, c6, rfl, ho6, hb6⟩; have hv6 := hv5.trans (hb6.mono hz5); have hz6 := hv6.size; have b16 := HB1.out.below hv6 hgv; have hd6 := HD.out.below (hv6.mono hz))
        | ((with_reducible show wpList _ _ _ (Oper.mk (some 35) (Op.load 56 (.tmp 1)) _ _ _ _ :: _) _ _); refine wpList_load_whole rfl 56 (.tmp 1) rfl g1 rfl #[.int .i64 kind, .int .i64 unit, .int .i64 block, .int .i64 many, .slice A m c, .int .i64 op, .int .i64 who, .int .i64 key, .int .i64 new, .int .i64 ty, .bool st] aggCm rfl _ b16 ?_)
        | (go_at_call 30; refine (crefenc_yes kind unit block many op who key new ty st hd6 (Nat.le_trans hz hz6) (by omega) HX.out HY.out HOK.out).mono ?_; rintro e w7 ⟨A7, N7, c7, rfl, ho7, hb7⟩; have ho67 := OwB.below ho6 hb7; have hv7 := hv6.trans (hb7.mono hz6); have hz7 := hv7.size; have e57 : w7.cell? ⟨w2.heap.size, 4, none⟩ = some (.slice (some ⟨v3.heap.size, 0, none⟩) m (m + 2)) := (by rw [((b5.below hb6 b5.lt).below hb7 (Nat.lt_of_lt_of_le b5.lt hb6.size)).cell]; rfl); have e17 : w7.cell? ⟨g1, 4, none⟩ = some (.slice A m c) := (by rw [(HB1.out.below hv7 hgv).cell]; rfl); have hom7 := OwB.below (OwB.below hom5 hb6) hb7; have hoc7 := OwB.below (OwB.below HOC.out hb6) hb7)
        | (go_at_call 17; refine (same_c ho67.sl ho7.sl true (by simp)).mono ?_; rintro e w' ⟨rfl, rfl⟩)
        | (go_at_call 19; refine (kept_c hom7.sl (HD.out.below (hv7.mono hz)) (by omega)).mono ?_; rintro e w' ⟨rfl, rfl⟩)
        | (go_at_call 20; refine (apart2_c (base := w.heap.size) (Row.base_le ho67 (Nat.le_trans hz hz5)) (Row.base_le hoc7 (Nat.le_trans hz hz3)) (by have := ho67.len; have := LENB.out; omega) (by omega) (Nat.le_trans hz hz7) (far_of_base ho67 (fun g hg => by simp [wrote] at hg; subst hg; omega))).mono ?_; rintro e w8 ⟨rfl, hb8⟩))
      go_ret
      exact ⟨rfl, ((hbv.trans (hv7.mono hz)).alloc (Nat.le_trans hz hz7) _).trans hb8⟩
    · have HOK := Lib.hid hok
      clear hok
      go_wp2_with (first
        | ((with_reducible show wpList _ _ _ (Oper.mk (some 24) (Op.load 56 (.tmp 1)) _ _ _ _ :: _) _ _); refine wpList_load_whole rfl 56 (.tmp 1) rfl g1 rfl #[.int .i64 kind, .int .i64 unit, .int .i64 block, .int .i64 many, .slice A m c, .int .i64 op, .int .i64 who, .int .i64 key, .int .i64 new, .int .i64 ty, .bool st] aggCm rfl _ HB2.out ?_)
        | ((with_reducible show wpList _ _ _ (Oper.mk _ (Op.alloc 56) _ _ _ _ :: _) _ _); refine wpList_alloc_agg rfl 56 rfl #[.int .i64 0, .int .i64 0, .int .i64 0, .int .i64 0, .slice none 0 0, .int .i64 0, .int .i64 0, .int .i64 0, .int .i64 0, .int .i64 0, .bool false] zeroCm ?_)
        | ((with_reducible show wpList _ _ _ (Oper.mk none (Op.store 56 _ _) _ _ _ _ :: _) _ _); refine wpList_store_whole rfl 56 (.tmp 5) (.tmp 24) rfl w2.heap.size rfl [.int .i64 kind, .int .i64 unit, .int .i64 block, .int .i64 many, .slice A m c, .int .i64 op, .int .i64 who, .int .i64 key, .int .i64 new, .int .i64 ty, .bool st] rfl aggCm rfl _ _ bn rfl (by simp [Value.oneCell']) ?_; intro v3 b3 gb sb; have h23 : Below w2.heap.size w2 v3 := (below_alloc _ _).grown gb (by simp) (fun k hk => by cases hk; exact Nat.le_refl _); have hv3 := hv2.trans (h23.mono hz2); have hz3 := hv3.size; have e13 : v3.cell? ⟨g1, 4, none⟩ = some (.slice A m c) := (by rw [(HB1.out.below hv3 hgv).cell]; rfl); have hg53 := b3.lt; clear gb sb)
        | (go_at_call 15; refine (copy_c (HD.out.below (hv3.mono hz)) (Nat.le_trans hz hz3) (by omega)).mono ?_; rintro e w4 ⟨rfl, hoc, hb4⟩; have b4 := b3.below hb4 b3.lt; have k4 : w4.cell? ⟨w2.heap.size, 4, none⟩ = some (.slice A m c) := (by rw [b4.cell]; rfl); have f4 := b4.frozen 4; have hv4 := hv3.trans (hb4.mono hz3); obtain ⟨V5, hV5⟩ : ∃ V5, V5 = w4.setCell ⟨w2.heap.size, 4, none⟩ (.slice (some ⟨v3.heap.size, 0, none⟩) m (m + 2)) := ⟨_, rfl⟩; have b5 : Blk V5 w2.heap.size 56 #[.int .i64 kind, .int .i64 unit, .int .i64 block, .int .i64 many, .slice (some ⟨v3.heap.size, 0, none⟩) m (m + 2), .int .i64 op, .int .i64 who, .int .i64 key, .int .i64 new, .int .i64 ty, .bool st] := (by rw [hV5]; simpa using b4.set_ 4 (.slice (some ⟨v3.heap.size, 0, none⟩) m (m + 2))); have hom5 : OwB V5 v3.heap.size (some ⟨v3.heap.size, 0, none⟩) (m + 2) (m + 2) (ds ++ [0xa5, 0x5a]) := (by rw [hV5]; exact Row.keepRow hoc (grownBy_setCell _ w2.heap.size 4 _) (.inr (by simp [wrote]; omega))); have hv5 : Below v.heap.size v V5 := (by rw [hV5]; exact hv4.setCell (p := ⟨w2.heap.size, 4, none⟩) hz2 _); have hz5 := hv5.size; have HOC := Lib.hid (copy_own hom5 HD.out.len); have hcb : v3.heap.size < V5.heap.size := own_lt hom5 (by omega))
        | ((with_reducible show wpList _ _ _ (Oper.mk (some 30) (Op.load 56 (.tmp 5)) _ _ _ _ :: _) _ _); rw [← hV5]; refine wpList_load_whole rfl 56 (.tmp 5) rfl w2.heap.size rfl #[.int .i64 kind, .int .i64 unit, .int .i64 block, .int .i64 many, .slice (some ⟨v3.heap.size, 0, none⟩) m (m + 2), .int .i64 op, .int .i64 who, .int .i64 key, .int .i64 new, .int .i64 ty, .bool st] aggCm rfl _ b5 ?_)
        | (go_at_call 27; (try rw [← hV5]); refine (cenc_bad kind unit block many op who key new ty st HOC.out.sl (Nat.le_refl _) (by omega) HX.out HY.out HOK.out).mono ?_; rintro e w6 ⟨rfl, hb6⟩; have hv6 := hv5.trans (hb6.mono hz5); have hz6 := hv6.size; have b16 := HB1.out.below hv6 hgv; have hd6 := HD.out.below (hv6.mono hz))
        | ((with_reducible show wpList _ _ _ (Oper.mk (some 35) (Op.load 56 (.tmp 1)) _ _ _ _ :: _) _ _); refine wpList_load_whole rfl 56 (.tmp 1) rfl g1 rfl #[.int .i64 kind, .int .i64 unit, .int .i64 block, .int .i64 many, .slice A m c, .int .i64 op, .int .i64 who, .int .i64 key, .int .i64 new, .int .i64 ty, .bool st] aggCm rfl _ b16 ?_)
        | (go_at_call 30; refine (crefenc_bad kind unit block many op who key new ty st hd6 (Nat.le_trans hz hz6) (by omega) HX.out HY.out HOK.out).mono ?_; rintro e w7 ⟨rfl, hb7⟩; have hv7 := hv6.trans (hb7.mono hz6); have hz7 := hv7.size; have e57 : w7.cell? ⟨w2.heap.size, 4, none⟩ = some (.slice (some ⟨v3.heap.size, 0, none⟩) m (m + 2)) := (by rw [((b5.below hb6 b5.lt).below hb7 (Nat.lt_of_lt_of_le b5.lt hb6.size)).cell]; rfl); have e17 : w7.cell? ⟨g1, 4, none⟩ = some (.slice A m c) := (by rw [(HB1.out.below hv7 hgv).cell]; rfl); have hom7 := OwB.below (OwB.below hom5 hb6) hb7; have hoc7 := OwB.below (OwB.below HOC.out hb6) hb7)
        | (go_at_call 17; refine (same_c (SlB.nil _ 0 none) (SlB.nil _ 0 none) true (by simp)).mono ?_; rintro e w' ⟨rfl, rfl⟩)
        | (go_at_call 18; refine (is_err 11 11 rfl true rfl _).mono ?_; rintro e w' ⟨rfl, rfl⟩)
        | (go_at_call 19; refine (kept_c hom7.sl (HD.out.below (hv7.mono hz)) (by omega)).mono ?_; rintro e w' ⟨rfl, rfl⟩)
        | (go_at_call 20; refine (apart2_c (base := w.heap.size) (OwB.nil _ _ none) (Row.base_le hoc7 (Nat.le_trans hz hz3)) (by omega) (by omega) (Nat.le_trans hz hz7) ((.inl (by simp [wrote])))).mono ?_; rintro e w8 ⟨rfl, hb8⟩))
      go_ret
      exact ⟨rfl, ((hbv.trans (hv7.mono hz)).alloc (Nat.le_trans hz hz7) _).trans hb8⟩
end Go.Proofs.Ytjjpifppdjpcnaa.cdbEncodes
