/-
  mac.Equal: are two rows of bytes the same?
-/
import Derived.Test.YtdifepfplfkfoaaBase
namespace Go.Proofs.Ytdifepfplfkfoaa
open Go.RowKit
set_option linter.unusedVariables false
set_option maxRecDepth 100000

theorem u8_or_zero (a b : UInt8) : (a ||| b = 0) ↔ (a = 0 ∧ b = 0) := by
  constructor
  · intro h
    have h' : a.toBitVec ||| b.toBitVec = 0#8 := by rw [← UInt8.toBitVec_or, h]; rfl
    rw [BitVec.or_eq_zero_iff] at h'
    exact ⟨UInt8.toBitVec_inj.1 h'.1, UInt8.toBitVec_inj.1 h'.2⟩
  · rintro ⟨rfl, rfl⟩; rfl
theorem u8_xor_zero (a b : UInt8) : (a ^^^ b = 0) ↔ a = b := by
  constructor
  · intro h
    have h' : a.toBitVec ^^^ b.toBitVec = 0#8 := by rw [← UInt8.toBitVec_xor, h]; rfl
    rw [BitVec.xor_eq_zero_iff] at h'
    exact UInt8.toBitVec_inj.1 h'
  · rintro rfl; simp

theorem take_eq_succ {xs bs : List UInt8} {k : Nat} (h1 : k < xs.length) (h2 : k < bs.length) : (xs.take (k + 1) = bs.take (k + 1)) ↔ (xs.take k = bs.take k ∧ xs[k] = bs[k]) := by
  rw [List.take_succ_eq_append_getElem h1, List.take_succ_eq_append_getElem h2]
  constructor
  · intro h
    have := List.append_inj h (by simp; omega)
    exact ⟨this.1, by simpa using this.2⟩
  · rintro ⟨h3, h4⟩; rw [h3, h4]

set_option maxHeartbeats 400000 in
theorem equal_c {w : World} {B B' : Nat} {A A' : Option Addr} {n n' c c' : Nat} {xs bs : List UInt8} (ha : SlB w B A n c xs) (hb : SlB w B' A' n' c' bs) (r : Bool) (hr : (xs == bs) = r) :
    Calls Try.prog 43 #[.slice A n c, .slice A' n' c'] w fun e w' => e = .returned (.bool r) ∧ w = w' := by
  have hl := ha.len
  have hl' := hb.len
  have hm := ha.mx
  have hm' := hb.mx
  have HR := Lib.hid hr
  clear hr
  by_cases hn : n = n'
  · subst hn
    rcases Nat.eq_zero_or_pos n with h0 | h0
    · subst h0
      obtain rfl : xs = [] := List.eq_nil_of_length_eq_zero hl
      obtain rfl : bs = [] := List.eq_nil_of_length_eq_zero hl'
      obtain rfl : r = true := HR.out.symm
      clear ha hb hl hl' hm hm'
      go_enter Try.func43, Try.ntmps43
      go_wp2_with fail
      refine wp_loop_rounds 1 ?_
      rw [rounds_succ]
      go_wp2_with fail
      go_ret
      exact ⟨rfl, rfl⟩
    · obtain ⟨b, off, rfl, _, hj⟩ := ha.at_ (by have := ha.le; omega)
      obtain ⟨b', off', rfl, _, hj'⟩ := hb.at_ (by have := hb.le; omega)
      have HL := Lib.hid hl
      have HL' := Lib.hid hl'
      have HJ := Lib.hid hj
      have HJ' := Lib.hid hj'
      clear ha hb hl hl' hj hj'
      go_enter Try.func43, Try.ntmps43
      go_wp2_with fail
      go_loop [5, 15] (fun d i => ∃ (k : Nat) (y : UInt8), k ≤ n ∧ i = .int .i64 k ∧ d = .int .u8 (y.toNat : Int) ∧ (y = 0 ↔ xs.take k = bs.take k)) (fun _ i => n - (intOf i).toNat)
      case atStart => exact ⟨0, 0, by omega, rfl, rfl, by simp⟩
      case round =>
        obtain ⟨k, y, hk, rfl, rfl, hy⟩ := hrel
        have HY := Lib.hid hy
        clear hy
        by_cases hlt : k < n
        · have hkx : k < xs.length := by rw [HL.out]; exact hlt
          have hkb : k < bs.length := by rw [HL'.out]; exact hlt
          have c1 : w.cell? ⟨b, off + k, none⟩ = some (.int .u8 (xs[k].toNat : Int)) := HJ.out k _ (List.getElem?_eq_getElem hkx)
          have c2 : w.cell? ⟨b', off' + k, none⟩ = some (.int .u8 (bs[k].toNat : Int)) := HJ'.out k _ (List.getElem?_eq_getElem hkb)
          have hi : (k : Int) < (n : Int) := by omega
          go_wp2_with fail
          go_round
          case rel =>
            refine ⟨k + 1, y ||| (xs[k] ^^^ bs[k]), by omega, by go_num, ?_, ?_⟩
            · rw [xor8, or8]
            · rw [u8_or_zero, u8_xor_zero, HY.out, take_eq_succ hkx hkb]
          case measure => simp [intOf]; omega
        · obtain rfl : k = n := by omega
          have e : ((y.toNat : Int) == 0) = r := by
            rw [← HR.out, Bool.eq_iff_iff, beq_iff_eq, beq_iff_eq]
            have h1 := HY.out
            rw [List.take_of_length_le (by rw [HL.out]; exact Nat.le_refl _), List.take_of_length_le (by rw [HL'.out]; exact Nat.le_refl _)] at h1
            rw [← h1, ← UInt8.toNat_inj]
            simp
          have HE := Lib.hid e
          clear e
          go_wp2_with fail
          go_ret
          exact ⟨by rw [← HE.out]; rfl, rfl⟩
  · obtain rfl : r = false := by
      rw [← HR.out, beq_eq_false_iff_ne]
      intro e
      exact hn (by rw [← hl, ← hl', e])
    have hne : ((n : Int) != (n' : Int)) = true := by rw [bne_iff_ne]; omega
    clear ha hb hl hl' hm hm'
    go_enter Try.func43, Try.ntmps43
    go_wp2_with fail
    go_ret
    exact ⟨rfl, rfl⟩
end Go.Proofs.Ytdifepfplfkfoaa
