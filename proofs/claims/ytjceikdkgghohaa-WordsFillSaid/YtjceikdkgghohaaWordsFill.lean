/-
  words.Fill, and WordsFill: which sector begins with bytes.
-/
import Derived.Test.YtjceikdkgghohaaNum
import Derived.Test.YtjceikdkgghohaaArr
namespace Go.Proofs.Ytjceikdkgghohaa.wordsFill
open Go.RowKit
set_option linter.unusedVariables false
set_option maxRecDepth 100000

theorem aggC : AggT Try.prog 27 128 := ⟨⟨_, Try.underlying27, rfl⟩, by kernel_rfl⟩
theorem zeroC : (Try.prog.info? 27).bind (·.zero) = some (.agg (arr8 (z8 128))) := by kernel_rfl
theorem info8 : (Try.prog.info? 5).map (·.size) = some 1 := by kernel_rfl

theorem fill_big {w : World} {A : Option Addr} {n c : Nat} (hn : 128 < n) (hm : n ≤ 9223372036854775807) :
    Calls Try.prog 16 #[.slice A n c] w fun e w' => e = .returned (.tuple #[.agg (arr8 (z8 128)), .iface 33 (.int .i64 1)]) ∧ Below w.heap.size w w' := by
  have hlt : (128 : Int) < (n : Int) := by omega
  have b1 := Lib.hid (Blk.new w 27 (arr8 (z8 128)))
  have b2 : Hid (Blk ((w.alloc (.cells (arr8 (z8 128)) 27)).alloc (.cells (arr8 (z8 128)) 27)) (w.heap.size + 1) 27 (arr8 (z8 128))) := by
    have := Blk.new (w.alloc (.cells (arr8 (z8 128)) 27)) 27 (arr8 (z8 128))
    rw [World.size_alloc] at this
    exact this
  go_enter Try.func16, Try.ntmps16
  go_wp2_with (first
    | ((with_reducible show wpList _ _ _ (Oper.mk _ (Op.alloc 27) _ _ _ _ :: _) _ _); refine wpList_alloc_agg rfl 27 rfl (arr8 (z8 128)) zeroC ?_)
    | ((with_reducible show wpList _ _ _ (Oper.mk (some 8) (Op.load 27 _) _ _ _ _ :: _) _ _); refine wpList_load_whole rfl 27 (.tmp 4) rfl (w.heap.size + 1) rfl (arr8 (z8 128)) aggC (by rw [size_arr8, len_z8]) 27 b2.out ?_)
    | ((with_reducible show wpList _ _ _ (Oper.mk none (Op.store 27 _ _) _ _ _ _ :: _) _ _); refine wpList_store8 rfl 27 (.tmp 2) (.tmp 8) rfl w.heap.size rfl (z8 128) rfl aggC (len_z8 _) _ _ (b1.out.alloc _) (by rw [size_arr8, len_z8]) ?_; intro w1 hb1 hg1 hs1))
  refine bodyPost_ret (results_cell_tmp rfl _ w.heap.size _ (arr8 (z8 128)) aggC (by rw [size_arr8, len_z8]) rfl hb1) rfl ⟨rfl, ?_⟩
  exact (((Below.refl _ _).alloc (Nat.le_refl _) _).alloc (by simp) _).grown hg1 (by simp only [World.size_alloc]; omega) (fun k hk => by cases hk; exact Nat.le_refl _)

/-- A sector that begins with bytes, the rest noughts. -/
def fill8 (bs : List UInt8) : List UInt8 := bs ++ z8 (128 - bs.length)
theorem len_fill8 {bs : List UInt8} (h : bs.length ≤ 128) : (fill8 bs).length = 128 := by
  rw [fill8, List.length_append, len_z8]; omega
theorem fill8_splice {bs : List UInt8} {n : Nat} (hl : bs.length = n) (hn : n ≤ 128) : splice (arr8 (z8 128)) 0 ((bs.map b8).take (Nat.min n 128 * 1)) = arr8 (fill8 bs) := by
  have e : (bs.map b8).take (Nat.min n 128 * 1) = bs.map b8 := by
    rw [Nat.mul_one, show Nat.min n 128 = n from Nat.min_eq_left hn, List.take_of_length_le (by rw [List.length_map]; omega)]
  rw [e, splice8, fill8]
  rw [z8_drop]
  simp

theorem fill_ok {w : World} {B : Nat} {A : Option Addr} {n c : Nat} {bs : List UInt8} (ha : SlB w B A n c bs) (hB : B ≤ w.heap.size) (hn : n ≤ 128) :
    Calls Try.prog 16 #[.slice A n c] w fun e w' => e = .returned (.tuple #[.agg (arr8 (fill8 bs)), .nilIface]) ∧ Below w.heap.size w w' := by
  have hlt : (n : Int) ≤ (128 : Int) := by omega
  have hl := Lib.hid ha.len
  have b1 := Lib.hid (Blk.new w 27 (arr8 (z8 128)))
  have b2 : Hid (Blk ((w.alloc (.cells (arr8 (z8 128)) 27)).alloc (.cells (arr8 (z8 128)) 27)) (w.heap.size + 1) 27 (arr8 (z8 128))) := by
    have := Blk.new (w.alloc (.cells (arr8 (z8 128)) 27)) 27 (arr8 (z8 128))
    rw [World.size_alloc] at this
    exact this
  have ha2 := Lib.hid ((ha.alloc hB (.cells (arr8 (z8 128)) 27)).alloc (by simp; omega) (.cells (arr8 (z8 128)) 27))
  clear ha
  go_enter Try.func16, Try.ntmps16
  go_wp2_with (first
    | ((with_reducible show wpList _ _ _ (Oper.mk _ (Op.alloc 27) _ _ _ _ :: _) _ _); refine wpList_alloc_agg rfl 27 rfl (arr8 (z8 128)) zeroC ?_)
    | ((with_reducible show wpList _ _ _ (Oper.mk (some 12) (Op.call _) _ _ _ _ :: _) _ _); refine wpList_copy_blk rfl (.tmp 10) (.tmp 11) 25 rfl Try.underlying25 info8 rfl b2.out rfl ha2.out (by rw [size_arr8, len_z8]; exact Nat.le_trans (by simp; exact Nat.min_le_right _ _) (Nat.le_refl 128)) (b8_one _) ?_; intro w1 hb1 hg1 hs1; rw [fill8_splice hl.out hn] at hb1; have b3 : Blk w1 w.heap.size 27 (arr8 (z8 128)) := ((b1.out).alloc _).grown hg1 (by simp))
    | ((with_reducible show wpList _ _ _ (Oper.mk (some 13) (Op.load 27 _) _ _ _ _ :: _) _ _); refine wpList_load_whole rfl 27 (.tmp 4) rfl (w.heap.size + 1) rfl (arr8 (fill8 bs)) aggC (by rw [size_arr8, len_fill8 (by rw [hl.out]; exact hn)]) 27 hb1 ?_)
    | ((with_reducible show wpList _ _ _ (Oper.mk none (Op.store 27 _ _) _ _ _ _ :: _) _ _); refine wpList_store8 rfl 27 (.tmp 2) (.tmp 13) rfl w.heap.size rfl (fill8 bs) rfl aggC (len_fill8 (by rw [hl.out]; exact hn)) _ _ b3 (by rw [size_arr8, len_z8]) ?_; intro w2 hb2 hg2 hs2))
  refine bodyPost_ret (results_cell_tmp rfl _ w.heap.size _ (arr8 (fill8 bs)) aggC (by rw [size_arr8, len_fill8 (by rw [hl.out]; exact hn)]) rfl hb2) rfl ⟨rfl, ?_⟩
  exact ((((Below.refl _ _).alloc (Nat.le_refl _) _).alloc (by simp) _).grown hg1 (by simp only [World.size_alloc]; omega) (fun k hk => by cases hk; exact Nat.le_succ _)).grown hg2 (by rw [hs1]; simp; omega) (fun k hk => by cases hk; exact Nat.le_refl _)

theorem build5 (w : World) : (Instr.build 27 #[(0, .int .u8 5)]).run Try.prog w = .ok (.agg (arr8 (5 :: z8 127))) w := by kernel_rfl
theorem build0 (w : World) : (Instr.build 27 #[]).run Try.prog w = .ok (.agg (arr8 (z8 128))) w := by kernel_rfl
theorem guardC : Try.prog.eqGuardType Try.prog.depth 27 = false := by kernel_rfl
theorem size_of8 (w : World) : (sizeOf 5).run Try.prog w = .ok 1 w := by kernel_rfl
theorem eqC (xs ys : List UInt8) (hx : xs.length = 128) (hy : ys.length = 128) (w : World) : (Op.equalIn 10000 27 (.agg (arr8 xs)) (.agg (arr8 ys))).run Try.prog w = .ok (xs == ys) w :=
  run_equalIn_arr8 w _ _ 128 Try.underlying27 Try.underlying5 size_of8 xs ys hx hy

theorem fill5 : fill8 [5] = 5 :: z8 127 := rfl
theorem fill5_b : (fill8 [5] == 5 :: z8 127) = true := by rw [fill5]; simp

set_option maxHeartbeats 800000 in
theorem walk (A0 : Option Addr) (n0 c0 : Nat) (bs0 : List UInt8) (w : World) (w0 : SlB w w.heap.size A0 n0 c0 bs0) (y0 : c0 ≤ 140737488351232) :
    Calls Try.prog 4 #[.slice A0 n0 c0] w fun e w' => e = .returned (.bool true) ∧ Below w.heap.size w w' := by
  have hnm : n0 ≤ 9223372036854775807 := w0.mx
  have hgc := guardC
  have h5 : ∀ W, (Op.equalIn 10000 27 (.agg (arr8 (fill8 [5]))) (.agg (arr8 (5 :: z8 127)))).run Try.prog W = .ok true W := fun W => by rw [eqC _ _ (len_fill8 (by simp)) (by simp [len_z8]), fill5_b]
  go_enter Try.func4, Try.ntmps4
  go_wp2_with fail
  refine (fill_ok (SlB.new w _ [5] 1 (Nat.lt_succ_self _) rfl (by simp [maxLen]) rfl) (by simp) (by omega)).mono ?_
  rintro e w1 ⟨rfl, hb1⟩
  have hs1 : w.heap.size + 1 ≤ w1.heap.size := by have := hb1.size; simpa using this
  have B1 := Blk.new w1 27 (arr8 (z8 128))
  go_wp2_with (first
    | ((with_reducible show wpList _ _ _ (Oper.mk _ (Op.alloc 27) _ _ _ _ :: _) _ _); refine wpList_alloc_agg rfl 27 rfl (arr8 (z8 128)) zeroC ?_)
    | ((with_reducible show wpList _ _ _ (Oper.mk none (Op.store 27 _ _) _ _ _ _ :: _) _ _); refine wpList_store8 rfl 27 (.tmp 3) (.tmp 11) rfl w1.heap.size rfl (fill8 [5]) rfl aggC (len_fill8 (by simp)) _ _ B1 (by rw [size_arr8, len_z8]) ?_; intro w2 hb2 hg2 hs2)
    | ((with_reducible show wpList _ _ _ (Oper.mk _ (Op.load 27 _) _ _ _ _ :: _) _ _); refine wpList_load_whole rfl 27 (.tmp 3) rfl w1.heap.size rfl (arr8 (fill8 [5])) aggC (by rw [size_arr8, len_fill8 (by simp)]) 27 hb2 ?_)
    | ((with_reducible show wpList _ _ _ (Oper.mk _ (Op.build 27 _) _ _ _ _ :: _) _ _); refine wpList_build rfl 27 _ rfl #[(0, .int .u8 5)] (by simp only [List.map_toArray, List.map_cons, List.map_nil]; rfl) _ (build5 _) ?_))
  have hb2w : Below w.heap.size w w2 := ((((Below.refl _ _).alloc (Nat.le_refl _) _).trans (hb1.mono (by simp))).alloc (by omega) _).grown hg2 (by simp only [World.size_alloc]; omega) (fun k hk => by cases hk; omega)
  have hz2 : w.heap.size ≤ w2.heap.size := hb2w.size
  clear h5 hb2 hg2 hs2 B1 hb1 hs1
  by_cases hbig : 128 < n0
  · have hbi : (128 : Int) < (n0 : Int) := by omega
    have h0 : ∀ W, (Op.equalIn 10000 27 (.agg (arr8 (z8 128))) (.agg (arr8 (z8 128)))).run Try.prog W = .ok true W := fun W => by rw [eqC _ _ (len_z8 _) (len_z8 _)]; simp
    refine (fill_big hbig hnm).mono ?_
    rintro e w3 ⟨rfl, hb3⟩
    have hz3 := hb3.size
    have B3 := Blk.new w3 27 (arr8 (z8 128))
    go_wp2_with (first
      | ((with_reducible show wpList _ _ _ (Oper.mk _ (Op.alloc 27) _ _ _ _ :: _) _ _); refine wpList_alloc_agg rfl 27 rfl (arr8 (z8 128)) zeroC ?_)
      | ((with_reducible show wpList _ _ _ (Oper.mk none (Op.store 27 _ _) _ _ _ _ :: _) _ _); refine wpList_store8 rfl 27 (.tmp 5) (.tmp 23) rfl w3.heap.size rfl (z8 128) rfl aggC (len_z8 _) _ _ B3 (by rw [size_arr8, len_z8]) ?_; intro w4 hb4 hg4 hs4)
      | (go_at_call 17; refine (is_err 1 1 rfl true rfl _).mono ?_; rintro e w5 ⟨rfl, rfl⟩)
      | ((with_reducible show wpList _ _ _ (Oper.mk _ (Op.load 27 _) _ _ _ _ :: _) _ _); refine wpList_load_whole rfl 27 (.tmp 5) rfl w3.heap.size rfl (arr8 (z8 128)) aggC (by rw [size_arr8, len_z8]) 27 hb4 ?_)
      | ((with_reducible show wpList _ _ _ (Oper.mk _ (Op.build 27 _) _ _ _ _ :: _) _ _); refine wpList_build rfl 27 _ rfl #[] (by simp only [List.map_toArray, List.map_nil]) _ (build0 _) ?_))
    go_ret
    exact ⟨rfl, ((hb2w.trans (hb3.mono hz2)).alloc (by omega) _).grown hg4 (by simp only [World.size_alloc]; omega) (fun k hk => by cases hk; omega)⟩
  · have hbi : (n0 : Int) ≤ (128 : Int) := by omega
    have hlen := Lib.hid w0.len
    have h0 : ∀ W, (Op.equalIn 10000 27 (.agg (arr8 (fill8 bs0))) (.agg (arr8 (fill8 bs0)))).run Try.prog W = .ok true W := fun W => by
      have hl : bs0.length ≤ 128 := by rw [hlen.out]; omega
      rw [eqC _ _ (len_fill8 hl) (len_fill8 hl)]; simp
    refine (fill_ok (w0.below hb2w) hz2 (by omega)).mono ?_
    rintro e w3 ⟨rfl, hb3⟩
    have hz3 := hb3.size
    have hb3w := hb2w.trans (hb3.mono hz2)
    have B3 := Blk.new w3 27 (arr8 (z8 128))
    go_wp2_with (first
      | ((with_reducible show wpList _ _ _ (Oper.mk (some 5) (Op.alloc 27) _ _ _ _ :: _) _ _); refine wpList_alloc_agg rfl 27 rfl (arr8 (z8 128)) zeroC ?_)
      | ((with_reducible show wpList _ _ _ (Oper.mk none (Op.store 27 (Operand.tmp 5) _) _ _ _ _ :: _) _ _); refine wpList_store8 rfl 27 (.tmp 5) (.tmp 23) rfl w3.heap.size rfl (fill8 bs0) rfl aggC (len_fill8 (by rw [hlen.out]; omega)) _ _ B3 (by rw [size_arr8, len_z8]) ?_; intro w4 hb4 hg4 hs4; have B4 := Blk.new w4 27 (arr8 (z8 128)); have hz4 : w4.heap.size = w3.heap.size + 1 := (by rw [hs4, World.size_alloc]); have HZ4 := Lib.hid hz4; clear hz4 hs4; have hb4w : Below w.heap.size w w4 := (hb3w.alloc (by omega) _).grown hg4 (by simp only [World.size_alloc]; omega) (fun k hk => by cases hk; omega))
      | ((with_reducible show wpList _ _ _ (Oper.mk _ (Op.build 27 _) _ _ _ _ :: _) _ _); refine wpList_build rfl 27 _ rfl #[] (by simp only [List.map_toArray, List.map_nil]) _ (build0 _) ?_)
      | ((with_reducible show wpList _ _ _ (Oper.mk (some 7) (Op.alloc 27) _ _ _ _ :: _) _ _); refine wpList_alloc_agg rfl 27 rfl (arr8 (z8 128)) zeroC ?_)
      | ((with_reducible show wpList _ _ _ (Oper.mk none (Op.store 27 (Operand.tmp 7) _) _ _ _ _ :: _) _ _); refine wpList_store8 rfl 27 (.tmp 7) (.tmp 35) rfl w4.heap.size rfl (z8 128) rfl aggC (len_z8 _) _ _ B4 (by rw [size_arr8, len_z8]) ?_; intro w5 hb5 hg5 hs5; have hz5 : w5.heap.size = w4.heap.size + 1 := (by rw [hs5, World.size_alloc]); have HZ5 := Lib.hid hz5; clear hz5 hs5; have hb5w : Below w.heap.size w w5 := (hb4w.alloc hb4w.size _).grown hg5 (by simp only [World.size_alloc]; exact Nat.le_trans hb4w.size (Nat.le_succ _)) (fun k hk => by cases hk; exact hb4w.size); have hb45 : Blk w5 w3.heap.size 27 (arr8 (fill8 bs0)) := (hb4.alloc _).grown hg5 (fun e => by have e := Option.some.inj e; have := HZ4.out; omega))
      | ((with_reducible show wpList _ _ _ (Oper.mk (some 38) (Op.call _) _ _ _ _ :: _) _ _); refine wpList_copy_blk rfl (.tmp 36) (.tmp 37) 25 rfl Try.underlying25 info8 rfl hb5 rfl (w0.below hb5w) (by rw [size_arr8, len_z8]; exact Nat.le_trans (by simp; exact Nat.min_le_right _ _) (Nat.le_refl 128)) (b8_one _) ?_; intro w6 hb6 hg6 hs6; rw [fill8_splice hlen.out (by omega)] at hb6; have hb46 : Blk w6 w3.heap.size 27 (arr8 (fill8 bs0)) := hb45.grown hg6 (fun e => by have e := Option.some.inj e; have := HZ4.out; omega))
      | ((with_reducible show wpList _ _ _ (Oper.mk _ (Op.load 27 (Operand.tmp 5)) _ _ _ _ :: _) _ _); refine wpList_load_whole rfl 27 (.tmp 5) rfl w3.heap.size rfl (arr8 (fill8 bs0)) aggC (by rw [size_arr8, len_fill8 (by rw [hlen.out]; omega)]) 27 hb46 ?_)
      | ((with_reducible show wpList _ _ _ (Oper.mk _ (Op.load 27 (Operand.tmp 7)) _ _ _ _ :: _) _ _); refine wpList_load_whole rfl 27 (.tmp 7) rfl w4.heap.size rfl (arr8 (fill8 bs0)) aggC (by rw [size_arr8, len_fill8 (by rw [hlen.out]; omega)]) 27 hb6 ?_))
    go_ret
    exact ⟨rfl, hb5w.grown hg6 hb5w.size (fun k hk => by cases hk; exact hb4w.size)⟩
end Go.Proofs.Ytjceikdkgghohaa.wordsFill
