/-
  mac.Piece: a key's piece.
-/
import Derived.Test.YtbphoilfiahnpaaOfUse
import Derived.Test.YtbphoilfiahnpaaOct
import Derived.Test.YtbphoilfiahnpaaDigestSchedule
namespace Go.Proofs.Ytbphoilfiahnpaa
open Go.RowKit
open digestSchedule (piece8 len_piece8 splice_piece info8)
set_option linter.unusedVariables false
set_option maxRecDepth 100000

/-- What of a key counts. -/
def keyOf (bs : List UInt8) : List UInt8 := if bs.length ≤ 64 then bs else sha bs
def keyPiece (bs : List UInt8) : List UInt8 := piece8 (keyOf bs)
theorem len_keyPiece (bs : List UInt8) : (keyPiece bs).length = 64 := len_piece8 _
theorem keyOf_le (bs : List UInt8) : (keyOf bs).length ≤ 64 := by
  unfold keyOf
  split
  · assumption
  · rw [len_sha]; omega

/-- A digest's cells, as a slice. -/
theorem sum_sl {w : World} {g : Nat} {t : TypeId} {bs : List UInt8} (hb : Blk w g t (arr8 bs)) (hl : bs.length = 32) : SlB w w.heap.size (some ⟨g, 0, none⟩) 32 32 bs := by
  have := SlB.ofBlk hb (lo := 0) (hi := 32) (c := 32) (B := w.heap.size) (by omega) (by omega) (by omega) (by simp [maxLen]) hb.lt
  rwa [List.drop_zero, List.take_of_length_le (by omega)] at this

set_option maxHeartbeats 1000000 in
theorem key_c {w : World} {B : Nat} {A : Option Addr} {n c : Nat} {bs : List UInt8} (ha : SlB w B A n c bs) (hB : B ≤ w.heap.size) (hn : n ≤ 1099511627776) :
    Calls Try.prog 39 #[.slice A n c] w fun e w' => e = .returned (.agg (arr8 (keyPiece bs))) ∧ Below w.heap.size w w' := by
  have hl := Lib.hid ha.len
  have b2 := (Blk.new w 34 (arr8 (z8' 64))).alloc (.cells (arr8 (z8' 64)) 34)
  have b3 := Blk.new (w.alloc (.cells (arr8 (z8' 64)) 34)) 34 (arr8 (z8' 64))
  rw [World.size_alloc] at b3
  have hb0 : Below w.heap.size w ((w.alloc (.cells (arr8 (z8' 64)) 34)).alloc (.cells (arr8 (z8' 64)) 34)) := ((Below.refl _ _).alloc (Nat.le_refl _) _).alloc (by simp) _
  have hz0 := hb0.size
  obtain ⟨v, hv⟩ : ∃ v, v = (w.alloc (.cells (arr8 (z8' 64)) 34)).alloc (.cells (arr8 (z8' 64)) 34) := ⟨_, rfl⟩
  rw [← hv] at b2 b3 hb0 hz0
  have HV := Lib.hid hv
  clear hv
  have h64 := arr_all_run (P := Try.prog) (T := 34) Try.underlying34 size1 (by omega) (w.heap.size + 1)
  have HA := Lib.hid (ha.below (hb0.mono hB))
  by_cases hbig : n ≤ 64
  · have hni : ¬ (64 : Int) < (n : Int) := by omega
    have hni2 : (n : Int) ≤ 64 := by omega
    have hdec : decide ((64 : Int) < (n : Int)) = false := decide_eq_false hni
    have hk : keyOf bs = bs := by rw [keyOf, hl.out, if_pos hbig]
    have HK := Lib.hid hk
    clear hk
    go_enter Try.func39, Try.ntmps39
    go_wp2_with (first
      | ((with_reducible show wpList _ _ _ (Oper.mk _ (Op.alloc 34) _ _ _ _ :: _) _ _); refine wpList_alloc_agg rfl 34 rfl (arr8 (z8' 64)) zeroP34 ?_; (try rw [World.size_alloc]); (try rw [← HV.out]))
      | ((with_reducible show wpList _ _ _ (Oper.mk (some 14) (Op.call _) _ _ _ _ :: _) _ _); refine wpList_copy_blk rfl (.tmp 12) (.tmp 13) 31 rfl Try.underlying31 info8 rfl b3 rfl HA.out (by rw [size_arr8, len_z8']; exact Nat.le_trans (by simp; exact Nat.min_le_right _ _) (Nat.le_refl 64)) (b8_one _) ?_; intro v2 hb2 hg2 hs2; have e2 := splice_piece hl.out)
      | ((with_reducible show wpList _ _ _ (Oper.mk _ (Op.load 34 _) _ _ _ _ :: _) _ _); refine wpList_load_whole rfl 34 (.tmp 3) rfl (w.heap.size + 1) rfl (arr8 (piece8 bs)) aggP64 (by rw [size_arr8, len_piece8]) 34 (by rw [← e2]; exact hb2) ?_)
      | ((with_reducible show wpList _ _ _ (Oper.mk none (Op.store 34 _ _) _ _ _ _ :: _) _ _); refine wpList_store8 rfl 34 (.tmp 2) (.tmp 15) rfl w.heap.size rfl (piece8 bs) rfl aggP64 (len_piece8 _) _ _ (b2.grown hg2 (by simp)) (by rw [size_arr8, len_z8']) ?_; intro v3 hb3 hg3 hs3))
    refine bodyPost_ret (results_cell_one rfl _ w.heap.size _ (arr8 (piece8 bs)) aggP64 (by rw [size_arr8, len_piece8]) rfl hb3) rfl ⟨by rw [keyPiece, HK.out], ?_⟩
    exact (hb0.grown hg2 hz0 (fun k hk => by cases hk; omega)).grown hg3 (by rw [hs2]; exact hz0) (fun k hk => by cases hk; exact Nat.le_refl _)
  · have hni : (64 : Int) < (n : Int) := by omega
    have hdec : decide ((64 : Int) < (n : Int)) = true := decide_eq_true hni
    have hk : keyOf bs = sha bs := by rw [keyOf, hl.out, if_neg hbig]
    have HK := Lib.hid hk
    have hl32 := len_sha bs
    clear hk
    go_enter Try.func39, Try.ntmps39
    go_wp2_with (first
      | ((with_reducible show wpList _ _ _ (Oper.mk _ (Op.alloc 34) _ _ _ _ :: _) _ _); refine wpList_alloc_agg rfl 34 rfl (arr8 (z8' 64)) zeroP34 ?_; (try rw [World.size_alloc]); (try rw [← HV.out]))
      | (go_at_call 33; refine (of_one HA.out (Nat.le_trans hB hz0) hn).mono ?_; rintro e v1 ⟨rfl, hb1⟩; have b4 := Blk.new v1 44 (arr8 (z8' 32)); have h32 := arr_all_run (P := Try.prog) (T := 44) Try.underlying44 size1 (by omega) v1.heap.size)
      | ((with_reducible show wpList _ _ _ (Oper.mk _ (Op.alloc 44) _ _ _ _ :: _) _ _); refine wpList_alloc_agg rfl 44 rfl (arr8 (z8' 32)) zero44 ?_; (try rw [World.size_alloc]))
      | ((with_reducible show wpList _ _ _ (Oper.mk none (Op.store 44 _ _) _ _ _ _ :: _) _ _); refine wpList_store8 rfl 44 (.tmp 4) (.tmp 10) rfl v1.heap.size rfl (sha bs) rfl agg44 hl32 _ _ b4 (by rw [size_arr8, len_z8']) ?_; intro v4 hb4 hg4 hs4; have hv4 : Below v.heap.size v v4 := (hb1.alloc hb1.size _).grown hg4 (Nat.le_trans hb1.size (by simp)) (fun k hk => by cases hk; exact hb1.size))
      | ((with_reducible show wpList _ _ _ (Oper.mk (some 14) (Op.call _) _ _ _ _ :: _) _ _); refine wpList_copy_blk rfl (.tmp 12) (.tmp 13) 31 rfl Try.underlying31 info8 rfl (b3.below hv4 b3.lt) rfl (sum_sl hb4 hl32) (by rw [size_arr8, len_z8']; first | decide | omega | (simp; done)) (b8_one _) ?_; intro v2 hb2 hg2 hs2; have e2 := splice_piece hl32)
      | ((with_reducible show wpList _ _ _ (Oper.mk _ (Op.load 34 _) _ _ _ _ :: _) _ _); refine wpList_load_whole rfl 34 (.tmp 3) rfl (w.heap.size + 1) rfl (arr8 (piece8 (sha bs))) aggP64 (by rw [size_arr8, len_piece8]) 34 (by rw [← e2]; exact hb2) ?_)
      | ((with_reducible show wpList _ _ _ (Oper.mk none (Op.store 34 _ _) _ _ _ _ :: _) _ _); refine wpList_store8 rfl 34 (.tmp 2) (.tmp 15) rfl w.heap.size rfl (piece8 (sha bs)) rfl aggP64 (len_piece8 _) _ _ ((b2.below hv4 b2.lt).grown hg2 (by simp)) (by rw [size_arr8, len_z8']) ?_; intro v3 hb3 hg3 hs3))
    refine bodyPost_ret (results_cell_one rfl _ w.heap.size _ (arr8 (piece8 (sha bs))) aggP64 (by rw [size_arr8, len_piece8]) rfl hb3) rfl ⟨by rw [keyPiece, HK.out], ?_⟩
    have h04 := hb0.trans (hv4.mono hz0)
    exact (h04.grown hg2 h04.size (fun k hk => by cases hk; omega)).grown hg3 (by rw [hs2]; exact h04.size) (fun k hk => by cases hk; exact Nat.le_refl _)
end Go.Proofs.Ytbphoilfiahnpaa
