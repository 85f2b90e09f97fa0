/-
  DigestSchedule: what words a piece has.
-/
import Derived.Test.YtbphoilfiahnpaaRefSched
import Derived.Test.YtbphoilfiahnpaaLater
namespace Go.Proofs.Ytbphoilfiahnpaa.digestSchedule
open Go.RowKit
set_option linter.unusedVariables false
set_option maxRecDepth 100000

theorem agg34 : AggT Try.prog 34 64 := ⟨⟨_, Try.underlying34, rfl⟩, by kernel_rfl⟩
theorem zero34 : (Try.prog.info? 34).bind (·.zero) = some (.agg (arr8 (z8 64))) := by kernel_rfl
theorem info8 : (Try.prog.info? 5).map (·.size) = some 1 := by kernel_rfl
def one : List UInt8 := [0, 0, 0, 1] ++ z8 60
theorem len_one : one.length = 64 := rfl
theorem one0 : (sched one)[0]? = some 1 := by decide +kernel
theorem one16 : (sched one)[16]? = some 1 := by decide +kernel

/-- A piece that begins with bytes, or with the first of them. -/
def piece8 (bs : List UInt8) : List UInt8 := bs.take 64 ++ z8 (64 - (bs.take 64).length)
theorem len_piece8 (bs : List UInt8) : (piece8 bs).length = 64 := by
  rw [piece8, List.length_append, len_z8]
  have := List.length_take_le 64 bs
  omega

theorem splice_piece {bs : List UInt8} {n : Nat} (hl : bs.length = n) : splice (arr8 (z8 64)) 0 ((bs.map b8).take (Nat.min n 64 * 1)) = arr8 (piece8 bs) := by
  have e : (bs.map b8).take (Nat.min n 64 * 1) = (bs.take 64).map b8 := by
    rw [Nat.mul_one, ← List.map_take]
    congr 1
    by_cases h : n ≤ 64
    · rw [show Nat.min n 64 = n from Nat.min_eq_left h, List.take_of_length_le (by omega), List.take_of_length_le (by omega)]
    · rw [show Nat.min n 64 = 64 from Nat.min_eq_right (by omega)]
  rw [e, splice8, piece8, z8_drop]
  simp
theorem build34 (w : World) : (Instr.build 34 #[]).run Try.prog w = .ok (.agg (arr8 (z8 64))) w := by kernel_rfl
theorem build34one (w : World) : (Instr.build 34 #[(3, .int .u8 1)]).run Try.prog w = .ok (.agg (arr8 one)) w := by kernel_rfl
theorem guard24 : Try.prog.eqGuardType Try.prog.depth 24 = false := by kernel_rfl
theorem eq24 (xs : List UInt32) (hx : xs.length = 64) (w : World) : (Op.equalIn 10000 24 (.agg (arr32 xs)) (.agg (arr32 xs))).run Try.prog w = .ok true w := by
  rw [run_equalIn_arr32 w _ _ 64 Try.underlying24 Try.underlying23 size4 xs xs hx hx]
  simp

set_option maxHeartbeats 1000000 in
theorem walk (A0 : Option Addr) (n0 c0 : Nat) (bs0 : List UInt8) (w : World) (w0 : SlB w w.heap.size A0 n0 c0 bs0) (y0 : c0 ≤ 140737488351232) :
    Calls Try.prog 5 #[.slice A0 n0 c0] w fun e w' => e = .returned (.bool true) ∧ Below w.heap.size w w' := by
  have hnm : n0 ≤ 9223372036854775807 := w0.mx
  have HL := Lib.hid w0.len
  have b1 := Blk.new w 34 (arr8 (z8 64))
  have hall := arr_all_run (P := Try.prog) (T := 34) Try.underlying34 size1 (by omega) w.heap.size
  have hbe := eq24 (sched (piece8 bs0)) (len_sched _)
  have hge := guard24
  go_enter Try.func5, Try.ntmps5
  go_wp2_with (first
    | ((with_reducible show wpList _ _ _ (Oper.mk _ (Op.alloc 34) _ _ _ _ :: _) _ _); refine wpList_alloc_agg rfl 34 rfl (arr8 (z8 64)) zero34 ?_)
    | ((with_reducible show wpList _ _ _ (Oper.mk (some 5) (Op.build 34 _) _ _ _ _ :: _) _ _); refine wpList_build rfl 34 _ rfl #[] (by simp only [List.map_toArray, List.map_nil]) _ (build34 _) ?_)
    | ((with_reducible show wpList _ _ _ (Oper.mk none (Op.store 34 _ _) _ _ _ _ :: _) _ _); refine wpList_store8 rfl 34 (.tmp 3) (.tmp 5) rfl w.heap.size rfl (z8 64) rfl agg34 (len_z8 _) _ _ b1 (by rw [size_arr8, len_z8]) ?_; intro w1 hb1 hg1 hs1; have hw1 : Below w.heap.size w w1 := ((Below.refl _ _).alloc (Nat.le_refl _) _).grown hg1 (by simp) (fun k hk => by cases hk; exact Nat.le_refl _))
    | ((with_reducible show wpList _ _ _ (Oper.mk (some 8) (Op.call _) _ _ _ _ :: _) _ _); refine wpList_copy_blk rfl (.tmp 6) (.tmp 7) 31 rfl Try.underlying31 info8 rfl hb1 rfl (w0.below hw1) (by rw [size_arr8, len_z8]; exact Nat.le_trans (by simp; exact Nat.min_le_right _ _) (Nat.le_refl 64)) (b8_one _) ?_; intro w2 hb2 hg2 hs2; rw [splice_piece HL.out] at hb2; have hw2 : Below w.heap.size w w2 := hw1.grown hg2 hw1.size (fun k hk => by cases hk; exact Nat.le_refl _))
    | ((with_reducible show wpList _ _ _ (Oper.mk (some 9) (Op.build 34 _) _ _ _ _ :: _) _ _); refine wpList_build rfl 34 _ rfl #[(3, .int .u8 1)] (by simp only [List.map_toArray, List.map_cons, List.map_nil]; rfl) _ (build34one _) ?_)
    | (go_at_call 28; refine (schedule_c one len_one _).mono ?_; rintro e w3 ⟨rfl, hb3⟩; have hw3 : Below w.heap.size w w3 := hw2.trans (hb3.mono hw2.size); have b3 := Blk.new w3 24 (arr32 (z32 64)); have C1 : Blk w3 w.heap.size 34 (arr8 (piece8 bs0)) := Blk.below hb2 hb3 hb2.lt)
    | ((with_reducible show wpList _ _ _ (Oper.mk _ (Op.alloc 24) _ _ _ _ :: _) _ _); refine wpList_alloc_agg rfl 24 rfl (arr32 (z32 64)) zero24 ?_)
    | ((with_reducible show wpList _ _ _ (Oper.mk none (Op.store 24 _ _) _ _ _ _ :: _) _ _); refine wpList_store32 rfl 24 (.tmp 4) (.tmp 10) rfl w3.heap.size rfl (sched one) rfl agg24 (len_sched _) _ _ b3 (by rw [size_arr32, len_z32]) ?_; intro w4 hb4 hg4 hs4; have hw4 : Below w.heap.size w w4 := (hw3.alloc hw3.size _).grown hg4 (by simp only [World.size_alloc]; exact Nat.le_trans hw3.size (Nat.le_succ _)) (fun k hk => by cases hk; exact hw3.size); have D1 : Blk w4 w.heap.size 34 (arr8 (piece8 bs0)) := (C1.alloc _).grown hg4 (fun e => by have h1 := C1.lt; have h2 := Option.some.inj e; omega)))
  have hl := D1.lt
  have e0 := Later.cells hb4 0 (v := .int .u32 1) (by rw [arr32_get, one0]; rfl)
  have e16 := Later.cells hb4 16 (v := .int .u32 1) (by rw [arr32_get, one16]; rfl)
  have hlp := Lib.hid (len_piece8 bs0)
  have HP : ∀ X : Later w4, SlB X.w X.w.heap.size (some ⟨w.heap.size, 0, none⟩) 64 64 (piece8 bs0) := fun X => by
    have := SlB.ofBlk (X.blk D1) (lo := 0) (hi := 64) (c := 64) (B := X.w.heap.size) (by omega) (by rw [hlp.out]; exact Nat.le_refl _) (by omega) (by simp [maxLen]) (X.blk D1).lt
    rwa [List.drop_zero, List.take_of_length_le (by rw [hlp.out]; exact Nat.le_refl _)] at this
  have HPs : ∀ X : Later w4, X.w.heap.size ≤ X.w.heap.size := fun X => Nat.le_refl _
  simp only [Act.put, List.setIfInBounds_toArray, List.set_cons_succ, List.set_cons_zero]
  refine wp_region_later (by kernel_rfl) (by kernel_rfl) ?_
  repeat (first
    | ((with_reducible show wpQuiet _ _ _ _ (Oper.mk _ (Op.load 34 _) _ _ _ _ :: _) _); refine quiet_load_agg rfl 34 (.tmp 3) rfl w.heap.size rfl (arr8 (piece8 bs0)) agg34 (by rw [size_arr8, hlp.out]) 34 D1 ?_; simp only [Act.put, List.setIfInBounds_toArray, List.set_cons_succ, List.set_cons_zero])
    | go_big_quiet_step (first
        | (go_at_call 28; exact Later.call _ (schedule_c (piece8 bs0) hlp.out _))
        | (go_at_call 29; exact Later.call _ (refsched_c (HP _) (HPs _)))))
  refine wpQuiet_nil ?_
  rintro _ ⟨X, rfl⟩
  have hX := hw4.trans (X.below.mono hw4.size)
  go_wp2_with fail
  go_ret
  exact ⟨rfl, hX⟩
end Go.Proofs.Ytbphoilfiahnpaa.digestSchedule
