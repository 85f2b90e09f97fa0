/-
  The reference's Block: a stream's block.
-/
import Derived.Test.YtbphoilfiahnpaaAppStr
import Derived.Test.YtbphoilfiahnpaaStream
namespace Go.Proofs.Ytbphoilfiahnpaa
open Go.RowKit
set_option linter.unusedVariables false
set_option linter.unusedSimpArgs false
set_option maxRecDepth 100000

theorem byte_mod (m : Nat) : (.int .u8 ((m : Int) % 256) : Value) = b8 (UInt8.ofNat m) := by
  rw [b8, UInt8.toNat_ofNat']
  rfl
theorem big4 (i : Nat) : (bigB i 4).map b8 = [.int .u8 ((i : Int) / 16777216 % 256), .int .u8 ((i : Int) / 65536 % 256), .int .u8 ((i : Int) / 256 % 256), .int .u8 ((i : Int) % 256)] := by
  have h1 : ((i : Int) / 16777216) = ((i / 16777216 : Nat) : Int) := rfl
  have h2 : ((i : Int) / 65536) = ((i / 65536 : Nat) : Int) := rfl
  have h3 : ((i : Int) / 256) = ((i / 256 : Nat) : Int) := rfl
  rw [h1, h2, h3, byte_mod, byte_mod, byte_mod, byte_mod]
  simp [bigB, List.range_succ]

set_option maxHeartbeats 1000000 in
theorem refblock_c {w : World} {B : Nat} {A : Option Addr} {n c : Nat} {key : List UInt8} (hk : SlB w B A n c key) (hB : B ≤ w.heap.size) (hn : n ≤ 1099511627776) (s : ByteArray) (hs : s.size ≤ 1099511620000) (i : Nat) (hi : i ≤ 1000000) :
    Calls Try.prog 46 #[.slice A n c, .string s, .int .i64 (i : Int)] w fun e w' => e = .returned (.agg (arr8 (blockOf key s.data.toList i))) ∧ Below w.heap.size w w' := by
  have b4 := Blk.new w 44 (arr8 (z8' 32))
  have hb0 : Below w.heap.size w (w.alloc (.cells (arr8 (z8' 32)) 44)) := below_alloc _ _
  obtain ⟨v, hv⟩ : ∃ v, v = w.alloc (.cells (arr8 (z8' 32)) 44) := ⟨_, rfl⟩
  rw [← hv] at b4 hb0
  have hz0 := hb0.size
  have HV := Lib.hid hv
  have hk0 := hk.below (hb0.mono hB)
  have HK := Lib.hid hk0
  clear hv hk hk0
  have hi0 : (0 : Int) ≤ (i : Int) := by omega
  have hi1 : (i : Int) ≤ 9223372036854775000 := by omega
  have HI := Lib.hid hi
  clear hi
  have hq : OwB (v.alloc (.cells #[.int .u8 ((i : Int) / 16777216 % 256), .int .u8 ((i : Int) / 65536 % 256), .int .u8 ((i : Int) / 256 % 256), .int .u8 ((i : Int) % 256)] 5)) v.heap.size (some ⟨v.heap.size, 0, none⟩) 4 4 (bigB i 4) := OwB.lit v v.heap.size _ (bigB i 4) 4 (Nat.le_refl _) (len_bigB _ _) (by simp [maxLen]) (by rw [big4])
  have HQ := Lib.hid hq
  clear hq
  go_enter Try.func46, Try.ntmps46
  go_wp2_with (first
    | ((with_reducible show wpList _ _ _ (Oper.mk _ (Op.alloc 44) _ _ _ _ :: _) _ _); refine wpList_alloc_agg rfl 44 rfl (arr8 (z8' 32)) zero44 ?_; (try rw [World.size_alloc]); (try rw [← HV.out]))
    | (at_builtin; refine wpList_append_str rfl (.tmp 20) (.tmp 21) rfl rfl HQ.out s rfl (by omega) (by simp) (4 + s.size) rfl ?_; intro A2 c2 v2 h2 q2; have hb2 : Below v.heap.size v v2 := q2.below HQ.out (below_alloc _ _) (Nat.le_refl _) (by simp); have hz2 := hb2.size; have h23 := Row.alloc h2 (.cells #[.int .u8 0] 5); have n3 := SlB.new v2 #[.int .u8 0] [0] 1 (Nat.lt_succ_self _) rfl (by simp [maxLen]) rfl)
    | (at_builtin; refine wpList_append8 rfl (.tmp 24) (.tmp 25) rfl rfl h23 rfl n3 (by omega) (Nat.le_trans hz2 (by simp)) (4 + s.size + 1) rfl ?_; intro A3 c3 v3 h3 q3; have hb3 : Below v.heap.size v v3 := q3.below h23 (hb2.alloc hz2 _) (Nat.le_refl _) (Nat.le_trans hz2 (by simp)); have hz3 := hb3.size)
    | (go_at_call 42; refine (reftag_c (HK.out.below (hb3.mono (Nat.le_trans hB hz0))) (Nat.le_trans hB (Nat.le_trans hz0 hz3)) hn (Row.sl h3) (Nat.le_refl _) (by omega)).mono ?_; rintro e v4 ⟨rfl, hb4⟩; rw [List.append_assoc]; have b5 := (b4.below hb3 b4.lt).below hb4 (b4.below hb3 b4.lt).lt; have hw4 := hb0.trans ((hb3.trans (hb4.mono hz3)).mono hz0))
    | ((with_reducible show wpList _ _ _ (Oper.mk none (Op.store 44 (.tmp 6) _) _ _ _ _ :: _) _ _); refine wpList_store8 rfl 44 (.tmp 6) (.tmp 27) rfl w.heap.size rfl (blockOf key s.data.toList i) rfl agg44 (len_blockOf _ _ _) _ _ b5 (by rw [size_arr8, len_z8']) ?_; intro v6 hb6 hg6 hs6))
  refine bodyPost_ret (results_cell_one rfl _ w.heap.size _ (arr8 (blockOf key s.data.toList i)) agg44 (by rw [size_arr8, len_blockOf]) rfl hb6) rfl ⟨rfl, ?_⟩
  exact hw4.grown hg6 hw4.size (fun k hk => by cases hk; exact Nat.le_refl _)
end Go.Proofs.Ytbphoilfiahnpaa
