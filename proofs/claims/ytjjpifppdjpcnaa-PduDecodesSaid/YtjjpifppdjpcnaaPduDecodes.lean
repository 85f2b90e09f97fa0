/-
  PduDecodes: which frame any bytes are.
-/
import Derived.Test.YtjjpifppdjpcnaaPduDec
import Derived.Test.YtjjpifppdjpcnaaErr
import Derived.Test.YtjjpifppdjpcnaaConvStr
namespace Go.Proofs.Ytjjpifppdjpcnaa.pduDecodes
open Go.RowKit
set_option linter.unusedVariables false
set_option linter.unusedSimpArgs false
set_option maxRecDepth 100000

theorem decOk_ten : decOk [7, 0, 0, 0, 0, 10, 0, 0] := by
  have h := frB_ok (k := 7) (n := 0) (c := 10) (ds := []) okF_ten
  rwa [frB_ten] at h
theorem ten_parts : d0 [7, 0, 0, 0, 0, 10, 0, 0] = 7 ∧ d1 [7, 0, 0, 0, 0, 10, 0, 0] = 0 ∧ d2 [7, 0, 0, 0, 0, 10, 0, 0] = 10 := by decide

set_option maxHeartbeats 2000000 in
theorem walk_big (A : Option Addr) (n c : Nat) (bs : List UInt8) (w : World) (w0 : SlB w w.heap.size A n c bs) (y0 : c ≤ 140737488351232) (hbi : (16384 : Int) < (n : Int)) :
    Calls Try.prog 6 #[.slice A n c] w fun e w' => e = .returned (.bool true) ∧ Below w.heap.size w w' := by
  have hmx := w0.mx
  have hmc := w0.le
  have HD := Lib.hid w0
  clear w0
  obtain ⟨ct, vt, hct, hbt, hst⟩ := conv_str w ⟨#[7, 0, 0, 0, 0, 10, 0, 0]⟩ (by decide)
  rw [show (⟨#[7, 0, 0, 0, 0, 10, 0, 0]⟩ : ByteArray).size = 8 from rfl] at hct hst
  go_enter Try.func6, Try.ntmps6
  go_wp2_with (first
    | (go_at_call 14; refine (ten_c _).mono ?_; rintro e W1 ⟨rfl, rfl⟩)
    | (go_at_call_of 23 (some (⟨w.heap.size, 0, none⟩ : Addr)); refine (decode_yes hst (Nat.le_refl _) (by omega) decOk_ten).mono ?_; rintro e w1 ⟨A1, c1, rfl, ho1, hb1⟩; rw [ten_parts.1, ten_parts.2.1, ten_parts.2.2]; have hw1 := hbt.trans (hb1.mono hbt.size); have hz1 := hw1.size; have bn1 := Blk.new w1 24 #[.int .i64 0, .int .i64 0, .int .i64 0, .slice none 0 0])
    | ((with_reducible show wpList _ _ _ (Oper.mk (some 3) (Op.alloc 24) _ _ _ _ :: _) _ _); refine wpList_alloc_agg rfl 24 rfl #[.int .i64 0, .int .i64 0, .int .i64 0, .slice none 0 0] zeroFr ?_)
    | ((with_reducible show wpList _ _ _ (Oper.mk none (Op.store 24 (.tmp 3) _) _ _ _ _ :: _) _ _); refine wpList_store_whole rfl 24 (.tmp 3) (.tmp 14) rfl (w1.heap.size) rfl [.int .i64 7, .int .i64 0, .int .i64 10, .slice A1 (8 - 8) c1] rfl aggFr rfl _ _ bn1 rfl (by simp [Value.oneCell']) ?_; intro v2 b2 g2 s2; have h12 : Below w1.heap.size w1 v2 := (below_alloc _ _).grown g2 (by simp) (fun k hk => by cases hk; exact Nat.le_refl _); have hv2 := hw1.trans (h12.mono hz1); have hz2 := hv2.size; have q2 : v2.cell? ⟨w1.heap.size, 2, none⟩ = some (.int .i64 10) := (by rw [b2.cell]; rfl); have q0 : v2.cell? ⟨w1.heap.size, 0, none⟩ = some (.int .i64 7) := (by rw [b2.cell]; rfl); have hg12 := b2.lt; clear g2 s2))
  go_ret
  exact ⟨rfl, hv2⟩

set_option maxHeartbeats 2000000 in
theorem walk_yes (A : Option Addr) (n c : Nat) (bs : List UInt8) (w : World) (w0 : SlB w w.heap.size A n c bs) (y0 : c ≤ 140737488351232) (hbi : ¬ (16384 : Int) < (n : Int)) (hok : decOk bs) :
    Calls Try.prog 6 #[.slice A n c] w fun e w' => e = .returned (.bool true) ∧ Below w.heap.size w w' := by
  have hn8 : 8 ≤ n := by have := w0.len; have := hok.1; omega
  have hmx := w0.mx
  have hmc := w0.le
  have HD := Lib.hid w0
  clear w0
  obtain ⟨ct, vt, hct, hbt, hst⟩ := conv_str w ⟨#[7, 0, 0, 0, 0, 10, 0, 0]⟩ (by decide)
  rw [show (⟨#[7, 0, 0, 0, 0, 10, 0, 0]⟩ : ByteArray).size = 8 from rfl] at hct hst
  go_enter Try.func6, Try.ntmps6
  go_wp2_with (first
    | (go_at_call 14; refine (ten_c _).mono ?_; rintro e W1 ⟨rfl, rfl⟩)
    | (go_at_call_of 23 (some (⟨w.heap.size, 0, none⟩ : Addr)); refine (decode_yes hst (Nat.le_refl _) (by omega) decOk_ten).mono ?_; rintro e w1 ⟨A1, c1, rfl, ho1, hb1⟩; rw [ten_parts.1, ten_parts.2.1, ten_parts.2.2]; have hw1 := hbt.trans (hb1.mono hbt.size); have hz1 := hw1.size; have bn1 := Blk.new w1 24 #[.int .i64 0, .int .i64 0, .int .i64 0, .slice none 0 0])
    | ((with_reducible show wpList _ _ _ (Oper.mk (some 3) (Op.alloc 24) _ _ _ _ :: _) _ _); refine wpList_alloc_agg rfl 24 rfl #[.int .i64 0, .int .i64 0, .int .i64 0, .slice none 0 0] zeroFr ?_)
    | ((with_reducible show wpList _ _ _ (Oper.mk none (Op.store 24 (.tmp 3) _) _ _ _ _ :: _) _ _); refine wpList_store_whole rfl 24 (.tmp 3) (.tmp 14) rfl (w1.heap.size) rfl [.int .i64 7, .int .i64 0, .int .i64 10, .slice A1 (8 - 8) c1] rfl aggFr rfl _ _ bn1 rfl (by simp [Value.oneCell']) ?_; intro v2 b2 g2 s2; have h12 : Below w1.heap.size w1 v2 := (below_alloc _ _).grown g2 (by simp) (fun k hk => by cases hk; exact Nat.le_refl _); have hv2 := hw1.trans (h12.mono hz1); have hz2 := hv2.size; have q2 : v2.cell? ⟨w1.heap.size, 2, none⟩ = some (.int .i64 10) := (by rw [b2.cell]; rfl); have q0 : v2.cell? ⟨w1.heap.size, 0, none⟩ = some (.int .i64 7) := (by rw [b2.cell]; rfl); have hg12 := b2.lt; clear g2 s2)
    | (go_at_call 15; refine (copy_c (HD.out.below hv2) hz2 (by omega)).mono ?_; rintro e w3 ⟨rfl, hoc, hb3⟩; have hv3 := hv2.trans (hb3.mono hz2); have hz3 := hv3.size; have HOM := Lib.hid hoc; have HOC := Lib.hid (copy_own hoc HD.out.len); have hcb : v2.heap.size < w3.heap.size := own_lt hoc (by omega); clear hoc)
    | (go_at_call 23; refine (decode_yes HOC.out.sl (Nat.le_refl _) (by omega) hok).mono ?_; rintro e w4 ⟨A4, c4, rfl, ho4, hb4⟩; have hv4 := hv3.trans (hb4.mono hz3); have hz4 := hv4.size; have bn4 := Blk.new w4 24 #[.int .i64 0, .int .i64 0, .int .i64 0, .slice none 0 0])
    | ((with_reducible show wpList _ _ _ (Oper.mk (some 6) (Op.alloc 24) _ _ _ _ :: _) _ _); refine wpList_alloc_agg rfl 24 rfl #[.int .i64 0, .int .i64 0, .int .i64 0, .slice none 0 0] zeroFr ?_)
    | ((with_reducible show wpList _ _ _ (Oper.mk none (Op.store 24 (.tmp 6) _) _ _ _ _ :: _) _ _); refine wpList_store_whole rfl 24 (.tmp 6) (.tmp 36) rfl (w4.heap.size) rfl [.int .i64 (d0 bs), .int .i64 (d1 bs), .int .i64 (d2 bs), .slice A4 (n - 8) c4] rfl aggFr rfl _ _ bn4 rfl (by simp [Value.oneCell']) ?_; intro v5 b5 g5 s5; have h45 : Below w4.heap.size w4 v5 := (below_alloc _ _).grown g5 (by simp) (fun k hk => by cases hk; exact Nat.le_refl _); have hv5 := hv4.trans (h45.mono hz4); have hz5 := hv5.size; clear g5 s5)
    | (go_at_call 24; refine (refdecode_yes (HD.out.below hv5) hz5 (by omega) hok).mono ?_; rintro e w6 ⟨A6, c6, rfl, ho6, hb6⟩; have hv6 := hv5.trans (hb6.mono hz5); have hz6 := hv6.size; have b46 := b5.below hb6 b5.lt; have bn6 := Blk.new w6 24 #[.int .i64 0, .int .i64 0, .int .i64 0, .slice none 0 0])
    | ((with_reducible show wpList _ _ _ (Oper.mk (some 8) (Op.alloc 24) _ _ _ _ :: _) _ _); refine wpList_alloc_agg rfl 24 rfl #[.int .i64 0, .int .i64 0, .int .i64 0, .slice none 0 0] zeroFr ?_)
    | ((with_reducible show wpList _ _ _ (Oper.mk none (Op.store 24 (.tmp 8) _) _ _ _ _ :: _) _ _); refine wpList_store_whole rfl 24 (.tmp 8) (.tmp 41) rfl (w6.heap.size) rfl [.int .i64 (d0 bs), .int .i64 (d1 bs), .int .i64 (d2 bs), .slice A6 (n - 8) c6] rfl aggFr rfl _ _ bn6 rfl (by simp [Value.oneCell']) ?_; intro v7 b7 g7 s7; have h67 : Below w6.heap.size w6 v7 := (below_alloc _ _).grown g7 (by simp) (fun k hk => by cases hk; exact Nat.le_refl _); have hv7 := hv6.trans (h67.mono hz6); have hz7 := hv7.size; have b47 := b46.below h67 b46.lt; clear g7 s7)
    | ((with_reducible show wpList _ _ _ (Oper.mk (some 43) (Op.load 24 _) _ _ _ _ :: _) _ _); refine wpList_load_whole rfl 24 (.tmp 6) rfl (w4.heap.size) rfl #[.int .i64 (d0 bs), .int .i64 (d1 bs), .int .i64 (d2 bs), .slice A4 (n - 8) c4] aggFr rfl _ b47 ?_)
    | ((with_reducible show wpList _ _ _ (Oper.mk (some 44) (Op.load 24 _) _ _ _ _ :: _) _ _); refine wpList_load_whole rfl 24 (.tmp 8) rfl (w6.heap.size) rfl #[.int .i64 (d0 bs), .int .i64 (d1 bs), .int .i64 (d2 bs), .slice A6 (n - 8) c6] aggFr rfl _ b7 ?_)
    | (go_at_call 25; refine (same17_c (d0 bs) (d1 bs) (d2 bs) (OwB.sl (((ho4.below h45).below hb6).below h67)) (OwB.sl (ho6.below h67)) (Nat.le_refl _) (Nat.le_refl _)).mono ?_; rintro e w8 ⟨rfl, hb8⟩; have hv8 := hv7.trans (hb8.mono hz7); have hz8 := hv8.size; have hom8 := ((((HOM.out.below hb4).below h45).below hb6).below h67).below hb8; have hoc8 := ((((HOC.out.below hb4).below h45).below hb6).below h67).below hb8; have k8 : w8.cell? ⟨w4.heap.size, 3, none⟩ = some (.slice A4 (n - 8) c4) := (by rw [((b46.below h67 b46.lt).below hb8 (Nat.lt_of_lt_of_le b46.lt h67.size)).cell]; rfl); have ho48 := (((ho4.below h45).below hb6).below h67).below hb8)
    | (go_at_call 18; refine (is_err 10 10 rfl true rfl _).mono ?_; rintro e w' ⟨rfl, rfl⟩)
    | (go_at_call 19; refine (kept_c hom8.sl (HD.out.below hv8) (by omega)).mono ?_; rintro e w' ⟨rfl, rfl⟩)
    | (go_at_call 20; refine (apart2_c (base := w.heap.size) (Row.base_le ho48 hz3) (Row.base_le hoc8 hz2) (by omega) (by omega) hz8 (far_of_base ho48 (fun g hg => by simp [wrote] at hg; subst hg; omega))).mono ?_; rintro e w9 ⟨rfl, hb9⟩))
  go_ret
  exact ⟨rfl, (hv8.alloc hz8 _).trans hb9⟩

set_option maxHeartbeats 2000000 in
theorem walk_no (A : Option Addr) (n c : Nat) (bs : List UInt8) (w : World) (w0 : SlB w w.heap.size A n c bs) (y0 : c ≤ 140737488351232) (hbi : ¬ (16384 : Int) < (n : Int)) (hok : ¬ decOk bs) :
    Calls Try.prog 6 #[.slice A n c] w fun e w' => e = .returned (.bool true) ∧ Below w.heap.size w w' := by
  have hmx := w0.mx
  have hmc := w0.le
  have HD := Lib.hid w0
  clear w0
  obtain ⟨ct, vt, hct, hbt, hst⟩ := conv_str w ⟨#[7, 0, 0, 0, 0, 10, 0, 0]⟩ (by decide)
  rw [show (⟨#[7, 0, 0, 0, 0, 10, 0, 0]⟩ : ByteArray).size = 8 from rfl] at hct hst
  go_enter Try.func6, Try.ntmps6
  go_wp2_with (first
    | (go_at_call 14; refine (ten_c _).mono ?_; rintro e W1 ⟨rfl, rfl⟩)
    | (go_at_call_of 23 (some (⟨w.heap.size, 0, none⟩ : Addr)); refine (decode_yes hst (Nat.le_refl _) (by omega) decOk_ten).mono ?_; rintro e w1 ⟨A1, c1, rfl, ho1, hb1⟩; rw [ten_parts.1, ten_parts.2.1, ten_parts.2.2]; have hw1 := hbt.trans (hb1.mono hbt.size); have hz1 := hw1.size; have bn1 := Blk.new w1 24 #[.int .i64 0, .int .i64 0, .int .i64 0, .slice none 0 0])
    | ((with_reducible show wpList _ _ _ (Oper.mk (some 3) (Op.alloc 24) _ _ _ _ :: _) _ _); refine wpList_alloc_agg rfl 24 rfl #[.int .i64 0, .int .i64 0, .int .i64 0, .slice none 0 0] zeroFr ?_)
    | ((with_reducible show wpList _ _ _ (Oper.mk none (Op.store 24 (.tmp 3) _) _ _ _ _ :: _) _ _); refine wpList_store_whole rfl 24 (.tmp 3) (.tmp 14) rfl (w1.heap.size) rfl [.int .i64 7, .int .i64 0, .int .i64 10, .slice A1 (8 - 8) c1] rfl aggFr rfl _ _ bn1 rfl (by simp [Value.oneCell']) ?_; intro v2 b2 g2 s2; have h12 : Below w1.heap.size w1 v2 := (below_alloc _ _).grown g2 (by simp) (fun k hk => by cases hk; exact Nat.le_refl _); have hv2 := hw1.trans (h12.mono hz1); have hz2 := hv2.size; have q2 : v2.cell? ⟨w1.heap.size, 2, none⟩ = some (.int .i64 10) := (by rw [b2.cell]; rfl); have q0 : v2.cell? ⟨w1.heap.size, 0, none⟩ = some (.int .i64 7) := (by rw [b2.cell]; rfl); have hg12 := b2.lt; clear g2 s2)
    | (go_at_call 15; refine (copy_c (HD.out.below hv2) hz2 (by omega)).mono ?_; rintro e w3 ⟨rfl, hoc, hb3⟩; have hv3 := hv2.trans (hb3.mono hz2); have hz3 := hv3.size; have HOM := Lib.hid hoc; have HOC := Lib.hid (copy_own hoc HD.out.len); have hcb : v2.heap.size < w3.heap.size := own_lt hoc (by omega); clear hoc)
    | (go_at_call 23; refine (decode_no HOC.out.sl (Nat.le_refl _) (by omega) hok).mono ?_; rintro e w4 ⟨rfl, hb4⟩; have hv4 := hv3.trans (hb4.mono hz3); have hz4 := hv4.size; have bn4 := Blk.new w4 24 #[.int .i64 0, .int .i64 0, .int .i64 0, .slice none 0 0])
    | ((with_reducible show wpList _ _ _ (Oper.mk (some 6) (Op.alloc 24) _ _ _ _ :: _) _ _); refine wpList_alloc_agg rfl 24 rfl #[.int .i64 0, .int .i64 0, .int .i64 0, .slice none 0 0] zeroFr ?_)
    | ((with_reducible show wpList _ _ _ (Oper.mk none (Op.store 24 (.tmp 6) _) _ _ _ _ :: _) _ _); refine wpList_store_whole rfl 24 (.tmp 6) (.tmp 36) rfl (w4.heap.size) rfl [.int .i64 0, .int .i64 0, .int .i64 0, .slice none 0 0] rfl aggFr rfl _ _ bn4 rfl (by simp [Value.oneCell']) ?_; intro v5 b5 g5 s5; have h45 : Below w4.heap.size w4 v5 := (below_alloc _ _).grown g5 (by simp) (fun k hk => by cases hk; exact Nat.le_refl _); have hv5 := hv4.trans (h45.mono hz4); have hz5 := hv5.size; clear g5 s5)
    | (go_at_call 24; refine (refdecode_no (HD.out.below hv5) hz5 (by omega) hok).mono ?_; rintro e w6 ⟨rfl, hb6⟩; have hv6 := hv5.trans (hb6.mono hz5); have hz6 := hv6.size; have b46 := b5.below hb6 b5.lt; have bn6 := Blk.new w6 24 #[.int .i64 0, .int .i64 0, .int .i64 0, .slice none 0 0])
    | ((with_reducible show wpList _ _ _ (Oper.mk (some 8) (Op.alloc 24) _ _ _ _ :: _) _ _); refine wpList_alloc_agg rfl 24 rfl #[.int .i64 0, .int .i64 0, .int .i64 0, .slice none 0 0] zeroFr ?_)
    | ((with_reducible show wpList _ _ _ (Oper.mk none (Op.store 24 (.tmp 8) _) _ _ _ _ :: _) _ _); refine wpList_store_whole rfl 24 (.tmp 8) (.tmp 41) rfl (w6.heap.size) rfl [.int .i64 0, .int .i64 0, .int .i64 0, .slice none 0 0] rfl aggFr rfl _ _ bn6 rfl (by simp [Value.oneCell']) ?_; intro v7 b7 g7 s7; have h67 : Below w6.heap.size w6 v7 := (below_alloc _ _).grown g7 (by simp) (fun k hk => by cases hk; exact Nat.le_refl _); have hv7 := hv6.trans (h67.mono hz6); have hz7 := hv7.size; have b47 := b46.below h67 b46.lt; clear g7 s7)
    | ((with_reducible show wpList _ _ _ (Oper.mk (some 43) (Op.load 24 _) _ _ _ _ :: _) _ _); refine wpList_load_whole rfl 24 (.tmp 6) rfl (w4.heap.size) rfl #[.int .i64 0, .int .i64 0, .int .i64 0, .slice none 0 0] aggFr rfl _ b47 ?_)
    | ((with_reducible show wpList _ _ _ (Oper.mk (some 44) (Op.load 24 _) _ _ _ _ :: _) _ _); refine wpList_load_whole rfl 24 (.tmp 8) rfl (w6.heap.size) rfl #[.int .i64 0, .int .i64 0, .int .i64 0, .slice none 0 0] aggFr rfl _ b7 ?_)
    | (go_at_call 25; refine (same17_c 0 0 0 (SlB.nil v7 0 none) (SlB.nil v7 0 none) (Nat.zero_le _) (Nat.zero_le _)).mono ?_; rintro e w8 ⟨rfl, hb8⟩; have hv8 := hv7.trans (hb8.mono hz7); have hz8 := hv8.size; have hom8 := ((((HOM.out.below hb4).below h45).below hb6).below h67).below hb8; have hoc8 := ((((HOC.out.below hb4).below h45).below hb6).below h67).below hb8; have k8 : w8.cell? ⟨w4.heap.size, 3, none⟩ = some (.slice none 0 0) := (by rw [((b46.below h67 b46.lt).below hb8 (Nat.lt_of_lt_of_le b46.lt h67.size)).cell]; rfl))
    | (go_at_call 18; refine (is_err 10 10 rfl true rfl _).mono ?_; rintro e w' ⟨rfl, rfl⟩)
    | (go_at_call 19; refine (kept_c hom8.sl (HD.out.below hv8) (by omega)).mono ?_; rintro e w' ⟨rfl, rfl⟩)
    | (go_at_call 20; refine (apart2_c (base := w.heap.size) (OwB.nil _ _ none) (Row.base_le hoc8 hz2) (by omega) (by omega) hz8 (.inl (by simp [wrote]))).mono ?_; rintro e w9 ⟨rfl, hb9⟩))
  go_ret
  exact ⟨rfl, (hv8.alloc hz8 _).trans hb9⟩

theorem walk (A : Option Addr) (n c : Nat) (bs : List UInt8) (w : World) (w0 : SlB w w.heap.size A n c bs) (y0 : c ≤ 140737488351232) :
    Calls Try.prog 6 #[.slice A n c] w fun e w' => e = .returned (.bool true) ∧ Below w.heap.size w w' := by
  by_cases hbi : (16384 : Int) < (n : Int)
  · exact walk_big A n c bs w w0 y0 hbi
  · by_cases hok : decOk bs
    · exact walk_yes A n c bs w w0 y0 hbi hok
    · exact walk_no A n c bs w w0 y0 hbi hok
end Go.Proofs.Ytjjpifppdjpcnaa.pduDecodes
