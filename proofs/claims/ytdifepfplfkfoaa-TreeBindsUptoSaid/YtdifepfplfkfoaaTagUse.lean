/-
  What uses of mac.Tag share: keys with one piece, the fixed text.
-/
import Derived.Test.YtdifepfplfkfoaaRelC
import Derived.Test.YtdifepfplfkfoaaBase
import Derived.Test.YtdifepfplfkfoaaRefTag
import Derived.Test.YtdifepfplfkfoaaNum
namespace Go.Proofs.Ytdifepfplfkfoaa
open Go.RowKit
open digestSchedule (piece8 len_piece8)
set_option linter.unusedVariables false
set_option maxRecDepth 100000

theorem hmac_of_piece {a b : List UInt8} (h : keyPiece a = keyPiece b) (t : List UInt8) : hmac a t = hmac b t := by rw [hmac, hmac, inPart, inPart, outPart, outPart, h]
theorem keyOf_short {k : List UInt8} (h : k.length ≤ 64) : keyOf k = k := if_pos h
theorem keyOf_long {k : List UInt8} (h : 64 < k.length) : keyOf k = sha k := if_neg (by omega)
theorem piece_pad {k : List UInt8} (h : k.length ≤ 64) : keyPiece k = k ++ List.replicate (64 - k.length) 0 := by rw [keyPiece_eq, keyOf_short h]
theorem piece_piece (k : List UInt8) : keyPiece (keyPiece k) = keyPiece k := by
  rw [piece_pad (Nat.le_of_eq (len_keyPiece k)), len_keyPiece]
  simp
theorem piece_sha {k : List UInt8} (h : 64 < k.length) : keyPiece (sha k) = keyPiece k := by
  rw [keyPiece, keyPiece, keyOf_long h, keyOf_short (by rw [len_sha]; omega)]
theorem piece_take {k : List UInt8} (h : k.length ≤ 64) : (keyPiece k).take k.length = k := by rw [piece_pad h, List.take_left]
theorem piece_take_long {k : List UInt8} (h : 64 < k.length) : (keyPiece k).take 32 = sha k := by
  rw [keyPiece_eq, keyOf_long h, List.take_left' (len_sha k)]
theorem piece_zeros {k : List UInt8} {z : Nat} (h : k.length + z ≤ 64) : keyPiece (k ++ List.replicate z 0) = keyPiece k := by
  rw [piece_pad (by simp; omega), piece_pad (by omega), List.append_assoc, List.replicate_append_replicate]
  congr 2
  simp; omega

def jefeK : List UInt8 := [74, 101, 102, 101]
def whatT : List UInt8 := [119, 104, 97, 116, 32, 100, 111, 32, 121, 97, 32, 119, 97, 110, 116, 32, 102, 111, 114, 32, 110, 111, 116, 104, 105, 110, 103, 63]
theorem jefeK1 : (hmac jefeK whatT)[1]? = some 220 := by decide +kernel
theorem jefeK1_run (w : World) : (Instr.index 28 (.agg (arr8 (hmac jefeK whatT))) (.int .i64 1)).run Try.prog w = .ok (.int .u8 220) w := index44 (hmac jefeK whatT) 1 (by omega) 220 jefeK1 w

theorem build_seven (w : World) : (Instr.build 81 #[(0, .int .u8 7)]).run Try.prog w = .ok (.agg (arr8 (keyPiece [7]))) w := by kernel_rfl
theorem guard_piece : Try.prog.eqGuardType Try.prog.depth 81 = false := by kernel_rfl
theorem eq_piece (xs ys : List UInt8) (hx : xs.length = 64) (hy : ys.length = 64) (r : Bool) (hr : (xs == ys) = r) (w : World) : (Op.equalIn 10000 81 (.agg (arr8 xs)) (.agg (arr8 ys))).run Try.prog w = .ok r w := by
  rw [run_equalIn_arr8 w _ _ 64 Try.underlying81 Try.underlying5 size1 xs ys hx hy, hr]

/-- 'a[:k]' of an array of bytes. -/
theorem arr_to_run {P : Program} {T e : TypeId} {N : Nat} (hT : P.underlying T = some (.array N e)) (hs : ∀ W, (sizeOf e).run P W = .ok 1 W) (hN : 0 < N) (g hi : Nat) (H : Int) (hH : H = hi) (h2 : hi ≤ N) (W : World) :
    (Instr.sliceAt T (.pointer (some ⟨g, 0, none⟩)) none (some (.int .i64 H)) none).run P W = .ok (.slice (some ⟨g, 0, none⟩) hi N) W := by
  subst hH
  have ea : P.arrayLen T = N := by simp [Program.arrayLen, hT]
  have ee : P.elem T = e := by simp [Program.elem, hT]
  have h := run_sliceAt_array_h (P := P) W T ⟨g, 0, none⟩ (by rw [ea, ee]; exact hT) .i64 (hi : Int) (by omega) (by rw [ea]; omega)
  rw [h, ee, hs, ea]
  simp [Result.andThen, slicedAt, Addr.add]
/-- A call of mac.Tag with one text just laid. -/
theorem tag1_c {w : World} {B B' : Nat} {A A' : Option Addr} {n c n' c' : Nat} {key text : List UInt8} (hk : SlB w B A n c key) (hB : B ≤ w.heap.size) (hn : n ≤ 1099511627776) (ht : SlB w B' A' n' c' text) (hB' : B' ≤ w.heap.size) (hn' : n' ≤ 1099511627000) :
    Calls Try.prog 30 #[.slice A n c, .slice (some ⟨w.heap.size, 0, none⟩) 1 1] (w.alloc (.cells #[.slice A' n' c'] 22)) fun e w' => e = .returned (.agg (arr8 (hmac key text))) ∧ Below w.heap.size w w' := by
  have hal := below_alloc w (.cells #[.slice A' n' c'] 22)
  have hl := ht.len
  refine (tag_p ((hk.below (hal.mono hB))) (Nat.le_trans hB hal.size) hn (RelP.one (ht.more hB')) (by simp; omega) (by omega)).mono ?_
  rintro e w' ⟨rfl, hb⟩
  exact ⟨by rw [List.flatten_singleton], hal.trans (hb.mono hal.size)⟩
end Go.Proofs.Ytdifepfplfkfoaa
