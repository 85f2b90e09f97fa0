/-
  The digest's constants and its beginning; a schedule taken, in plain words.
-/
import Derived.Test.YtbphoilfiahnpaaSched
namespace Go.Proofs.Ytbphoilfiahnpaa
open Go.RowKit
set_option linter.unusedVariables false
set_option maxRecDepth 100000

def K64 : List UInt32 := [1116352408, 1899447441, 3049323471, 3921009573, 961987163, 1508970993, 2453635748, 2870763221, 3624381080, 310598401, 607225278, 1426881987, 1925078388, 2162078206, 2614888103, 3248222580, 3835390401, 4022224774, 264347078, 604807628, 770255983, 1249150122, 1555081692, 1996064986, 2554220882, 2821834349, 2952996808, 3210313671, 3336571891, 3584528711, 113926993, 338241895, 666307205, 773529912, 1294757372, 1396182291, 1695183700, 1986661051, 2177026350, 2456956037, 2730485921, 2820302411, 3259730800, 3345764771, 3516065817, 3600352804, 4094571909, 275423344, 430227734, 506948616, 659060556, 883997877, 958139571, 1322822218, 1537002063, 1747873779, 1955562222, 2024104815, 2227730452, 2361852424, 2428436474, 2756734187, 3204031479, 3329325298]
def H8 : List UInt32 := [1779033703, 3144134277, 1013904242, 2773480762, 1359893119, 2600822924, 528734635, 1541459225]
theorem len_K64 : K64.length = 64 := rfl
theorem len_H8 : H8.length = 8 := rfl
theorem agg26 : AggT Try.prog 26 8 := ⟨⟨_, Try.underlying26, rfl⟩, by kernel_rfl⟩
theorem zero26 : (Try.prog.info? 26).bind (·.zero) = some (.agg (arr32 (z32 8))) := by kernel_rfl

set_option maxHeartbeats 400000 in
theorem constants_c (w : World) : Calls Try.prog 20 #[] w fun e w' => e = .returned (.agg (arr32 K64)) ∧ Below w.heap.size w w' := by
  have b1 := Blk.new w 24 (arr32 (z32 64))
  go_enter Try.func20, Try.ntmps20
  go_wp2_with (first
    | ((with_reducible show wpList _ _ _ (Oper.mk _ (Op.alloc 24) _ _ _ _ :: _) _ _); refine wpList_alloc_agg rfl 24 rfl (arr32 (z32 64)) zero24 ?_)
    | ((with_reducible show wpList _ _ _ (Oper.mk _ (Op.build 24 _) _ _ _ _ :: _) _ _); refine wpList_build rfl 24 _ rfl _ rfl (.agg (arr32 K64)) (by kernel_rfl) ?_)
    | ((with_reducible show wpList _ _ _ (Oper.mk none (Op.store 24 _ _) _ _ _ _ :: _) _ _); refine wpList_store32 rfl 24 (.tmp 0) (.tmp 1) rfl w.heap.size rfl K64 rfl agg24 len_K64 _ _ b1 (by rw [size_arr32, len_z32]) ?_; intro w5 hb5 hg5 hs5))
  refine bodyPost_ret (results_cell_one rfl _ w.heap.size _ (arr32 K64) agg24 (by rw [size_arr32, len_K64]) rfl hb5) rfl ⟨rfl, ?_⟩
  exact ((Below.refl _ _).alloc (Nat.le_refl _) _).grown hg5 (by simp) (fun k hk => by cases hk; exact Nat.le_refl _)

set_option maxHeartbeats 400000 in
theorem begin_c (w : World) : Calls Try.prog 23 #[] w fun e w' => e = .returned (.agg (arr32 H8)) ∧ Below w.heap.size w w' := by
  have b1 := Blk.new w 26 (arr32 (z32 8))
  go_enter Try.func23, Try.ntmps23
  go_wp2_with (first
    | ((with_reducible show wpList _ _ _ (Oper.mk _ (Op.alloc 26) _ _ _ _ :: _) _ _); refine wpList_alloc_agg rfl 26 rfl (arr32 (z32 8)) zero26 ?_)
    | ((with_reducible show wpList _ _ _ (Oper.mk _ (Op.build 26 _) _ _ _ _ :: _) _ _); refine wpList_build rfl 26 _ rfl _ rfl (.agg (arr32 H8)) (by kernel_rfl) ?_)
    | ((with_reducible show wpList _ _ _ (Oper.mk none (Op.store 26 _ _) _ _ _ _ :: _) _ _); refine wpList_store32 rfl 26 (.tmp 0) (.tmp 1) rfl w.heap.size rfl H8 rfl agg26 len_H8 _ _ b1 (by rw [size_arr32, len_z32]) ?_; intro w5 hb5 hg5 hs5))
  refine bodyPost_ret (results_cell_one rfl _ w.heap.size _ (arr32 H8) agg26 (by rw [size_arr32, len_H8]) rfl hb5) rfl ⟨rfl, ?_⟩
  exact ((Below.refl _ _).alloc (Nat.le_refl _) _).grown hg5 (by simp) (fun k hk => by cases hk; exact Nat.le_refl _)
end Go.Proofs.Ytbphoilfiahnpaa
