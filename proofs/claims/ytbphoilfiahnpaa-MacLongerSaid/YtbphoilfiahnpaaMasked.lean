/-
  mac.masked: a piece, each byte exclusive or one byte.
-/
import Derived.Test.YtbphoilfiahnpaaKey
import Derived.Test.YtbphoilfiahnpaaRefOf
namespace Go.Proofs.Ytbphoilfiahnpaa
open Go.RowKit
set_option linter.unusedVariables false
set_option maxRecDepth 100000

theorem xor_u8 (x y : UInt8) : bits .xor .u8 (x.toNat : Int) (y.toNat : Int) = ((x ^^^ y).toNat : Int) := by
  have := u8_xor_nat x.toNat y.toNat (UInt8.toNat_lt x) (UInt8.toNat_lt y)
  rw [this, UInt8.toNat_xor]

/-- The bytes, masked. -/
def mask (y : UInt8) (ps : List UInt8) : List UInt8 := ps.map (· ^^^ y)
theorem len_mask (y : UInt8) (ps : List UInt8) : (mask y ps).length = ps.length := by simp [mask]

theorem mask_next (y : UInt8) (ps : List UInt8) (i : Nat) (hi : i < ps.length) : (arr8 ((mask y ps).take i ++ ps.drop i)).setIfInBounds i (.int .u8 ((ps[i] ^^^ y).toNat : Int)) = arr8 ((mask y ps).take (i + 1) ++ ps.drop (i + 1)) := by
  have hb : (.int .u8 ((ps[i] ^^^ y).toNat : Int) : Value) = b8 (ps[i] ^^^ y) := rfl
  rw [arr8, arr8, hb, List.setIfInBounds_toArray, ← List.map_set]
  congr 2
  have hl : ((mask y ps).take i).length = i := by rw [List.length_take, len_mask]; omega
  rw [List.set_append_right _ _ (by omega), hl, Nat.sub_self, List.drop_eq_getElem_cons hi, List.set_cons_zero, List.take_succ_eq_append_getElem (by rw [len_mask]; exact hi), List.append_assoc]
  simp [mask]

set_option maxHeartbeats 1000000 in
theorem masked_c (ps : List UInt8) (hp : ps.length = 64) (y : UInt8) (w : World) :
    Calls Try.prog 62 #[.agg (arr8 ps), .int .u8 (y.toNat : Int)] w fun e w' => e = .returned (.slice (some ⟨w.heap.size, 0, none⟩) 64 64) ∧ SlB w' w'.heap.size (some ⟨w.heap.size, 0, none⟩) 64 64 (mask y ps) ∧ Below w.heap.size w w' := by
  have HP := Lib.hid hp
  have b1 := Blk.new w 34 (arr8 ps)
  have hb : Below w.heap.size w (w.alloc (.cells (arr8 ps) 34)) := (Below.refl _ _).alloc (Nat.le_refl _) _
  have h64 := arr_all_run (P := Try.prog) (T := 34) Try.underlying34 size1 (by omega) w.heap.size
  clear hp
  go_enter Try.func62, Try.ntmps62
  go_wp2_with fail
  go_loopw [6] (fun v6 wr => ∃ i : Nat, i ≤ 64 ∧ v6 = .int .i64 (i : Int) ∧ Blk wr w.heap.size 34 (arr8 ((mask y ps).take i ++ ps.drop i)) ∧ Below w.heap.size w wr) (fun v6 _ => 64 - (intOf v6).toNat)
  case atStart => exact ⟨0, by omega, rfl, b1, hb⟩
  case round =>
    clear b1 hb
    obtain ⟨i, hi, rfl, C1, hb⟩ := hrel
    by_cases hlt : i < 64
    · have hip : i < ps.length := by rw [HP.out]; exact hlt
      obtain ⟨x, hx⟩ : ∃ x, x = ps[i] := ⟨_, rfl⟩
      have hl : ((mask y ps).take i).length = i := by rw [List.length_take, len_mask, HP.out]; omega
      have d1 : wr.cell? ⟨w.heap.size, i, none⟩ = some (.int .u8 (x.toNat : Int)) := by
        rw [C1.cell, arr8_get, List.getElem?_append_right (by omega), hl, Nat.sub_self, List.getElem?_drop, Nat.add_zero, List.getElem?_eq_getElem hip, hx]; rfl
      have f1 : wr.frozen? ⟨w.heap.size, i, none⟩ = false := C1.frozen i
      have hn := mask_next y ps i hip
      rw [← hx] at hn
      have hi1 : (i : Int) < 64 := by omega
      have hi0 : (0 : Int) ≤ (i : Int) := by omega
      have HN := Lib.hid hn
      have HC := Lib.hid C1
      have HB := Lib.hid hb
      clear hn C1 hb hx hl hip
      go_wp2_with fail
      clear d1 f1
      rw [xor_u8]
      refine ⟨⟨i + 1, by omega, by go_num, by rw [← HN.out]; exact HC.out.set_ i _, HB.out.setCell (by simp) _⟩, by simp [intOf]; omega⟩
    · obtain rfl : i = 64 := by omega
      have hf : (mask y ps).take 64 ++ ps.drop 64 = mask y ps := by rw [List.take_of_length_le (by rw [len_mask, HP.out]; omega), List.drop_of_length_le (by rw [HP.out]; omega), List.append_nil]
      rw [hf] at C1
      have hs : SlB wr wr.heap.size (some ⟨w.heap.size, 0, none⟩) 64 64 (mask y ps) := by
        have := SlB.ofBlk C1 (lo := 0) (hi := 64) (c := 64) (B := wr.heap.size) (by omega) (by rw [len_mask, HP.out]; omega) (by omega) (by simp [maxLen]) C1.lt
        rwa [List.drop_zero, List.take_of_length_le (by rw [len_mask, HP.out]; omega)] at this
      have HS := Lib.hid hs
      have HB := Lib.hid hb
      clear hs hb C1
      go_wp2_with fail
      go_ret
      exact ⟨rfl, HS.out, HB.out⟩
end Go.Proofs.Ytbphoilfiahnpaa
