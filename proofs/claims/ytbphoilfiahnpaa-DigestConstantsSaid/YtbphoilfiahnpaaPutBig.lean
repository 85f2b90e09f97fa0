/-
  octets.PutBig, octets.AppendBig: a number as bytes, the highest first.
-/
import Derived.Test.YtbphoilfiahnpaaOct
namespace Go.Proofs.Ytbphoilfiahnpaa
open Go.RowKit
set_option linter.unusedVariables false
set_option maxRecDepth 100000

/-- A number as k bytes, the highest first. -/
def bigB (x k : Nat) : List UInt8 := (List.range k).map fun t => UInt8.ofNat (x / 256 ^ (k - 1 - t))
theorem len_bigB (x k : Nat) : (bigB x k).length = k := by simp [bigB]
theorem bigB_get (x k t : Nat) (h : t < k) : (bigB x k)[t]? = some (UInt8.ofNat (x / 256 ^ (k - 1 - t))) := by
  simp [bigB, h]

theorem splice_back (cur : Array Value) (off s : Nat) (vs : List Value) (hs : s < vs.length) (hf : off + vs.length ≤ cur.size) :
    (splice cur (off + (s + 1)) (vs.drop (s + 1))).setIfInBounds (off + s) vs[s] = splice cur (off + s) (vs.drop s) := by
  have h1 : off + (s + 1) + (vs.drop (s + 1)).length ≤ cur.size := by rw [List.length_drop]; omega
  have h2 : off + s + (vs.drop s).length ≤ cur.size := by rw [List.length_drop]; omega
  apply Array.ext_getElem?
  intro j
  rw [Array.getElem?_setIfInBounds, splice_get _ _ _ h2, splice_get _ _ _ h1, size_splice _ _ _ h1]
  rw [List.length_drop, List.length_drop]
  by_cases ha : off + s = j
  · subst ha
    rw [if_pos rfl, if_pos (by omega), if_pos (by omega), Nat.sub_self, List.getElem?_drop, Nat.add_zero, List.getElem?_eq_getElem hs]
  · rw [if_neg ha]
    by_cases hb : off + (s + 1) ≤ j ∧ j < off + vs.length
    · rw [if_pos (by omega), if_pos (by omega), List.getElem?_drop, List.getElem?_drop]
      congr 1
      omega
    · rw [if_neg (by omega), if_neg (by omega)]
theorem splice_none (cur : Array Value) (off : Nat) : splice cur off [] = cur := by
  simp [splice]

theorem putBig_c {w : World} {g : Nat} {t : TypeId} {cur : Array Value} (hb : Blk w g t cur) {off k c : Nat} (hfit : off + k ≤ cur.size) (hk : k ≤ 9223372036854775807) {x : Nat} (hx : x < 18446744073709551616) :
    Calls Try.prog 59 #[.slice (some ⟨g, off, none⟩) k c, .int .u64 (x : Int)] w fun e w' => e = .returned (.tuple #[]) ∧ Blk w' g t (splice cur off ((bigB x k).map b8)) ∧ w.grownBy w' (some g) ∧ w'.heap.size = w.heap.size := by
  have HX := Lib.hid hx
  have HF := Lib.hid hfit
  have HB0 := Lib.hid hb
  clear hb hx
  go_enter Try.func59, Try.ntmps59
  go_wp2_with fail
  go_loopw [1, 4] (fun v1 v4 wr => ∃ r y : Nat, r ≤ k ∧ y < 18446744073709551616 ∧ y = x / 256 ^ (k - r) ∧ v1 = .int .u64 (y : Int) ∧ ((r = 0 ∧ v4 = .int .i64 (-1)) ∨ (∃ s : Nat, r = s + 1 ∧ v4 = .int .i64 (s : Int))) ∧
      Blk wr g t (splice cur (off + r) (((bigB x k).map b8).drop r)) ∧ w.grownBy wr (some g) ∧ wr.heap.size = w.heap.size)
    (fun _ v4 _ => (intOf v4 + 1).toNat)
  case atStart =>
    refine ⟨k, x, Nat.le_refl _, HX.out, by simp, rfl, ?_, ?_, World.grownBy.refl _ _, rfl⟩
    · cases k with
      | zero => exact .inl ⟨rfl, by rfl⟩
      | succ s => exact .inr ⟨s, rfl, by congr 1; omega⟩
    · rw [List.drop_of_length_le (by rw [List.length_map, len_bigB]; exact Nat.le_refl _), splice_none]
      exact HB0.out
  case round =>
    obtain ⟨r, y, hr, hy, hyx, rfl, hcs, hb, hg, hsz⟩ := hrel
    have HY := Lib.hid hyx
    have HB := Lib.hid hb
    have HG := Lib.hid hg
    have HS := Lib.hid hsz
    have hlen : ((bigB x k).map b8).length = k := by rw [List.length_map, len_bigB]
    have HL := Lib.hid hlen
    clear hb hg hsz hyx hlen
    rcases hcs with ⟨rfl, rfl⟩ | ⟨s, rfl, rfl⟩
    · go_wp2_with fail
      go_end0
      refine ⟨rfl, ?_, HG.out, HS.out⟩
      have := HB.out
      rwa [Nat.add_zero, List.drop_zero] at this
    · obtain ⟨v, hv⟩ : ∃ v, (splice cur (off + (s + 1)) (((bigB x k).map b8).drop (s + 1)))[off + s]? = some v :=
        ⟨_, Array.getElem?_eq_getElem (by rw [size_splice _ _ _ (by rw [List.length_drop, HL.out]; omega)]; omega)⟩
      have hc : wr.cell? ⟨g, off + s, none⟩ = some v := by rw [HB.out.cell, hv]
      have hf := HB.out.frozen (off + s)
      have hs0 : (0 : Int) ≤ (s : Int) := by omega
      have hsk : (s : Int) < (k : Int) := by omega
      clear hv
      go_wp2_with fail
      go_roundw
      case rel =>
        have e : Value.int .u8 ((y : Int) % 256) = ((bigB x k).map b8)[s]'(by rw [HL.out]; omega) := by
          have h1 : (bigB x k)[s]'(by rw [len_bigB]; omega) = UInt8.ofNat (x / 256 ^ (k - 1 - s)) := by
            have := bigB_get x k s (by omega)
            rw [List.getElem?_eq_getElem (by rw [len_bigB]; omega)] at this
            exact Option.some.inj this
          rw [List.getElem_map, h1, b8, UInt8.toNat_ofNat', HY.out, show k - (s + 1) = k - 1 - s from by omega]
          congr 1
        rw [e]
        refine ⟨s, y / 256, by omega, by omega, ?_, ?_, ?_, ?_, grownBy_trans HG.out (grownBy_setCell _ _ _ _), by rw [← HS.out]; simp [World.setCell]⟩
        · rw [HY.out, Nat.div_div_eq_div_mul, ← Nat.pow_succ, show k - s = (k - (s + 1)).succ from by omega]
        · rfl
        · cases s with
          | zero => exact .inl ⟨rfl, rfl⟩
          | succ t => exact .inr ⟨t, rfl, by rw [show ((t + 1 : Nat) : Int) - 1 = (t : Int) from by omega]⟩
        · rw [← splice_back _ _ _ _ (by rw [HL.out]; omega) (by rw [HL.out]; exact HF.out)]
          exact HB.out.set_ _ _
      case measure => simp only [intOf]; omega
end Go.Proofs.Ytbphoilfiahnpaa
