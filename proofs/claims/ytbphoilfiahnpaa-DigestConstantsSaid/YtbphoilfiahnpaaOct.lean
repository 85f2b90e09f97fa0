/-
  octets.Big: the number that bytes are. Slices of a block known whole.
-/
import Derived.Test.YtbphoilfiahnpaaByt3
import Derived.Test.YtbphoilfiahnpaaArr
import Derived.Test.YtbphoilfiahnpaaI64
import Derived.Test.YtbphoilfiahnpaaRotr
namespace Go.Proofs.Ytbphoilfiahnpaa
open Go.RowKit
set_option linter.unusedVariables false
set_option maxRecDepth 100000

/-- A cut of a block of bytes known whole reads as its bytes. -/
theorem SlB.ofBlk {w : World} {g : Nat} {t : TypeId} {bs : List UInt8} (h : Blk w g t (arr8 bs)) {lo hi c B : Nat} (hl : lo ≤ hi) (hh : hi ≤ bs.length) (hc : hi - lo ≤ c) (hm : c ≤ maxLen) (hB : g < B) :
    SlB w B (some ⟨g, lo, none⟩) (hi - lo) c ((bs.drop lo).take (hi - lo)) := by
  refine ⟨?_, hc, hm, fun _ => ⟨g, lo, rfl, hB, fun j u hu => ?_⟩⟩
  · rw [List.length_map, List.length_take, List.length_drop, Nat.min_eq_left (by omega), Nat.mul_one]
  · rw [h.cell, arr8_get]
    rw [List.getElem?_map, List.getElem?_take] at hu
    split at hu
    · rw [List.getElem?_drop] at hu
      exact hu
    · cases hu

/-- A cut of an array of bytes, the bounds as the walk spells them. -/
theorem arr_cut_run {P : Program} {T e : TypeId} {N : Nat} (hT : P.underlying T = some (.array N e)) (hs : ∀ W, (sizeOf e).run P W = .ok 1 W) (g lo hi m c : Nat) (L H : Int) (hL : L = lo) (hH : H = hi) (h1 : lo ≤ hi) (h2 : hi ≤ N) (h3 : lo < N) (hm : hi - lo = m) (hc : N - lo = c) (W : World) :
    (Instr.sliceAt T (.pointer (some ⟨g, 0, none⟩)) (some (.int .i64 L)) (some (.int .i64 H)) none).run P W = .ok (.slice (some ⟨g, lo, none⟩) m c) W := by
  subst hL hH hm hc
  have ea : P.arrayLen T = N := by simp [Program.arrayLen, hT]
  have ee : P.elem T = e := by simp [Program.elem, hT]
  have h := run_sliceAt_array_lh (P := P) W T ⟨g, 0, none⟩ (by rw [ea, ee]; exact hT) .i64 .i64 (lo : Int) (hi : Int) (by omega) (by omega) (by rw [ea]; omega)
  rw [h, ee, hs, ea]
  simp [Result.andThen, slicedAt, Addr.add, show ¬ N = lo from by omega]
  omega
theorem arr_all_run {P : Program} {T e : TypeId} {N : Nat} (hT : P.underlying T = some (.array N e)) (hs : ∀ W, (sizeOf e).run P W = .ok 1 W) (hN : 0 < N) (g : Nat) (W : World) :
    (Instr.sliceAt T (.pointer (some ⟨g, 0, none⟩)) none none none).run P W = .ok (.slice (some ⟨g, 0, none⟩) N N) W := by
  have ea : P.arrayLen T = N := by simp [Program.arrayLen, hT]
  have ee : P.elem T = e := by simp [Program.elem, hT]
  have h := run_sliceAt_array_all (P := P) W T ⟨g, 0, none⟩ (by rw [ea, ee]; exact hT)
  rw [h, ee, hs, ea]
  simp [Result.andThen, slicedAt, Addr.add]

theorem u64_or_byte (n : Nat) (x : Nat) (hx : x < 256) : bits .or .u64 (u64v n * 256 % 18446744073709551616) (x : Int) = u64v (n * 256 + x) := by
  have h1 : u64v n * 256 % 18446744073709551616 = ((n * 256 % 18446744073709551616 : Nat) : Int) := by
    rw [u64v, wrap_u64]; omega
  rw [h1, u64_or_nat _ _ (by omega) (by omega)]
  have h2 : n * 256 % 18446744073709551616 = 256 * (n % 72057594037927936) := by omega
  rw [h2, show 256 * (n % 72057594037927936) = 2 ^ 8 * (n % 72057594037927936) from rfl, Nat.two_pow_add_eq_or_of_lt (by omega : x < 2 ^ 8) (n % 72057594037927936) |>.symm]
  rw [u64v, wrap_u64]
  omega

theorem big_c {w : World} {B : Nat} {A : Option Addr} {n c : Nat} {bs : List UInt8} (ha : SlB w B A n c bs) (hn : 0 < n) :
    Calls Try.prog 54 #[.slice A n c] w fun e w' => e = .returned (.int .u64 (u64v (bigN bs))) ∧ w = w' := by
  have hl := Lib.hid ha.len
  have hm := ha.mx
  obtain ⟨b, off, rfl, _, hj⟩ := ha.at_ (by have := ha.le; omega)
  have HJ := Lib.hid hj
  clear ha hj
  go_enter Try.func54, Try.ntmps54
  go_wp2_with fail
  go_loop [3, 8] (fun s i => ∃ k : Nat, k ≤ n ∧ i = .int .i64 k ∧ s = .int .u64 (u64v (bigN (bs.take k)))) (fun _ i => n - (intOf i).toNat)
  case atStart => exact ⟨0, by omega, rfl, rfl⟩
  case round =>
    obtain ⟨k, hk, rfl, rfl⟩ := hrel
    by_cases hlt : k < n
    · obtain ⟨x, hx⟩ : ∃ x, bs[k]? = some x := ⟨bs[k]'(by have := hl.out; omega), List.getElem?_eq_getElem _⟩
      have hc := HJ.out k x hx
      have HX := Lib.hid hx
      have hi : (k : Int) < (n : Int) := by omega
      have hxl := UInt8.toNat_lt x
      clear hx
      go_wp2_with fail
      go_round
      case rel =>
        refine ⟨k + 1, by omega, by go_num, ?_⟩
        rw [take_snoc' bs k x HX.out, bigN_snoc, ← u64_or_byte _ _ hxl]
        first | rfl | simp
      case measure => simp [intOf]; omega
    · obtain rfl : k = n := by omega
      go_wp2_with fail
      go_ret
      exact ⟨by rw [List.take_of_length_le (by rw [hl.out]; exact Nat.le_refl _)]; rfl, rfl⟩
end Go.Proofs.Ytbphoilfiahnpaa
