/-
  The plain law of frames: which bytes are a frame's; what records in memory keep.
-/
import Derived.Test.YtjjpifppdjpcnaaNumLaw
import Derived.Test.YtjjpifppdjpcnaaPduRef
import Derived.Test.YtjjpifppdjpcnaaApart
namespace Go.Proofs.Ytjjpifppdjpcnaa
open Go.RowKit
set_option linter.unusedVariables false
set_option linter.unusedSimpArgs false
set_option maxRecDepth 100000

def d0 (bs : List UInt8) : Int := i64v (bigN (bs.take 1))
def d1 (bs : List UInt8) : Int := i64v (bigN ((bs.drop 1).take 4))
def d2 (bs : List UInt8) : Int := i64v (bigN ((bs.drop 5).take 1))
theorem d0_range {bs : List UInt8} (h : 1 ≤ bs.length) : 0 ≤ d0 bs ∧ d0 bs ≤ 255 := okPut_one.1 (back_ok (k := 1) (.inl rfl) _ (by rw [List.length_take]; omega))
theorem d1_range {bs : List UInt8} (h : 5 ≤ bs.length) : 0 ≤ d1 bs ∧ d1 bs ≤ 4294967295 := okPut_four.1 (back_ok (k := 4) (by simp [sz]) _ (by rw [List.length_take, List.length_drop]; omega))
theorem d2_range {bs : List UInt8} (h : 6 ≤ bs.length) : 0 ≤ d2 bs ∧ d2 bs ≤ 255 := okPut_one.1 (back_ok (k := 1) (.inl rfl) _ (by rw [List.length_take, List.length_drop]; omega))
theorem nums_split {bs : List UInt8} (h : 6 ≤ bs.length) : numsF (d0 bs) (d1 bs) (d2 bs) ++ bs.drop 6 = bs := by
  have e0 : numB (d0 bs) 1 1 = bs.take 1 := by
    have := back_bytes (bs.take 1) (by rw [List.length_take]; omega)
    rwa [show (bs.take 1).length = 1 by rw [List.length_take]; omega] at this
  have e1 : numB (d1 bs) 4 4 = (bs.drop 1).take 4 := by
    have := back_bytes ((bs.drop 1).take 4) (by rw [List.length_take]; omega)
    rwa [show ((bs.drop 1).take 4).length = 4 by rw [List.length_take, List.length_drop]; omega] at this
  have e2 : numB (d2 bs) 1 1 = (bs.drop 5).take 1 := by
    have := back_bytes ((bs.drop 5).take 1) (by rw [List.length_take]; omega)
    rwa [show ((bs.drop 5).take 1).length = 1 by rw [List.length_take, List.length_drop]; omega] at this
  rw [numsF, e0, e1, e2, List.append_assoc, List.append_assoc, show bs.drop 6 = (bs.drop 5).drop 1 by rw [List.drop_drop], List.take_append_drop, show bs.drop 5 = (bs.drop 1).drop 4 by rw [List.drop_drop], List.take_append_drop, List.take_append_drop]

/-- These bytes are a frame's. -/
def decOk (bs : List UInt8) : Prop := 8 ≤ bs.length ∧ okF (d0 bs) (d1 bs) (d2 bs) (bs.length - 8) ∧ (bs.drop 6).take 2 = head2 (bs.length - 8)

theorem rowLen_head {n : Nat} {ds : List UInt8} (hn : n ≤ 65535) (h : n ≤ ds.length) : rowLen (head2 n ++ ds) = some n := by
  have h1 : (UInt8.ofNat (n / 256)).toNat = n / 256 := by rw [UInt8.toNat_ofNat']; omega
  have h2 : (UInt8.ofNat (n % 256)).toNat = n % 256 := by rw [UInt8.toNat_ofNat']; omega
  show (if (UInt8.ofNat (n / 256)).toNat * 256 + (UInt8.ofNat (n % 256)).toNat ≤ ds.length then some ((UInt8.ofNat (n / 256)).toNat * 256 + (UInt8.ofNat (n % 256)).toNat) else none) = some n
  rw [h1, h2, show n / 256 * 256 + n % 256 = n by omega, if_pos h]
theorem head_of_rowLen {xs : List UInt8} {n : Nat} (h : rowLen xs = some n) : xs.take 2 = head2 n := by
  obtain ⟨hle, a, b, ha, hb, hn⟩ := rowLen_some h
  match xs, ha, hb with
  | x :: y :: t, ha, hb =>
    simp only [List.getElem?_cons_zero, List.getElem?_cons_succ, Option.some.injEq] at ha hb
    subst ha hb
    have hx := UInt8.toNat_lt x
    have hy := UInt8.toNat_lt y
    have e1 : UInt8.ofNat (n / 256) = x := by rw [← UInt8.toNat_inj, UInt8.toNat_ofNat']; omega
    have e2 : UInt8.ofNat (n % 256) = y := by rw [← UInt8.toNat_inj, UInt8.toNat_ofNat']; omega
    rw [head2, e1, e2]
    rfl
theorem dec_row {bs : List UInt8} (h : 8 ≤ bs.length) (hn : bs.length - 8 ≤ 65535) (he : (bs.drop 6).take 2 = head2 (bs.length - 8)) : rowLen (bs.drop 6) = some (bs.length - 8) := by
  have := rowLen_head (n := bs.length - 8) (ds := bs.drop 8) hn (by rw [List.length_drop]; exact Nat.le_refl _)
  rwa [← he, show bs.drop 8 = (bs.drop 6).drop 2 by rw [List.drop_drop], List.take_append_drop] at this
/-- A frame's bytes are a frame's; each number and the data come back. -/
theorem len_frB {k n c : Int} {ds : List UInt8} : (frB k n c ds).length = 8 + ds.length := by
  simp only [frB, numsF, List.length_append, len_numB, head2, List.length_cons, List.length_nil]
  omega
theorem frB_parts {bs : List UInt8} (h : decOk bs) : frB (d0 bs) (d1 bs) (d2 bs) (bs.drop 8) = bs := by
  obtain ⟨h8, ho, hh⟩ := h
  rw [frB, List.length_drop, ← hh, show bs.drop 8 = (bs.drop 6).drop 2 by rw [List.drop_drop], List.take_append_drop, nums_split (by omega)]
theorem frB_dec {k n c : Int} {ds : List UInt8} (h : okF k n c ds.length) : d0 (frB k n c ds) = k ∧ d1 (frB k n c ds) = n ∧ d2 (frB k n c ds) = c ∧ (frB k n c ds).drop 8 = ds ∧ (frB k n c ds).drop 6 = head2 ds.length ++ ds := by
  obtain ⟨h1, h2, h3, h4, h5, h6, h7⟩ := h
  have l1 := len_numB k 1 1
  have l4 := len_numB n 4 4
  have lc := len_numB c 1 1
  have e0 : (frB k n c ds).take 1 = numB k 1 1 := by
    rw [frB, numsF, List.append_assoc, List.append_assoc]; exact List.take_left' l1
  have e1 : (frB k n c ds).drop 1 = numB n 4 4 ++ (numB c 1 1 ++ (head2 ds.length ++ ds)) := by
    rw [frB, numsF, List.append_assoc, List.append_assoc]; exact List.drop_left' l1
  have e5 : (frB k n c ds).drop 5 = numB c 1 1 ++ (head2 ds.length ++ ds) := by
    rw [show (5 : Nat) = 1 + 4 from rfl, ← List.drop_drop, e1]; exact List.drop_left' l4
  have e6 : (frB k n c ds).drop 6 = head2 ds.length ++ ds := by
    rw [show (6 : Nat) = 5 + 1 from rfl, ← List.drop_drop, e5]; exact List.drop_left' lc
  refine ⟨?_, ?_, ?_, ?_, e6⟩
  · rw [d0, e0]; exact back_num (okPut_one.2 ⟨by omega, by omega⟩) (WalkArith.wf_i64 (by omega))
  · rw [d1, e1, List.take_left' l4]; exact back_num (okPut_four.2 ⟨h3, h4⟩) (WalkArith.wf_i64 (by omega))
  · rw [d2, e5, List.take_left' lc]; exact back_num (okPut_one.2 ⟨h5, h6⟩) (WalkArith.wf_i64 (by omega))
  · rw [show (8 : Nat) = 6 + 2 from rfl, ← List.drop_drop, e6]; rfl
theorem frB_ok {k n c : Int} {ds : List UInt8} (h : okF k n c ds.length) : decOk (frB k n c ds) := by
  obtain ⟨h0, h1, h2, h3, h4⟩ := frB_dec h
  have hl := len_frB (k := k) (n := n) (c := c) (ds := ds)
  refine ⟨by omega, ?_, ?_⟩
  · rw [h0, h1, h2, hl, Nat.add_sub_cancel_left]; exact h
  · rw [h4, hl, Nat.add_sub_cancel_left]; rfl

theorem own_set {w : World} {base n c g : Nat} {A : Option Addr} {bs : List UInt8} (h : OwB w base A n c bs) (hg : g < base) (i : Nat) (u : Value) : OwB (w.setCell ⟨g, i, none⟩ u) base A n c bs :=
  Row.keepRow h (grownBy_setCell w g i u) (by
    rcases Row.wrote_lt h with h1 | ⟨g', _, h1, h2, _⟩
    · exact .inl h1
    · right; rw [h1]; intro e; cases e; omega)
theorem own_grown {w w' : World} {base n c g : Nat} {A : Option Addr} {bs : List UInt8} (h : OwB w base A n c bs) (hg : g < base) (hw : w.grownBy w' (some g)) : OwB w' base A n c bs :=
  Row.keepRow h hw (by
    rcases Row.wrote_lt h with h1 | ⟨g', _, h1, h2, _⟩
    · exact .inl h1
    · right; rw [h1]; intro e; cases e; omega)
theorem copy_own {w : World} {base g n : Nat} {bs : List UInt8} (h : OwB w base (some ⟨g, 0, none⟩) (n + 2) (n + 2) (bs ++ [0xa5, 0x5a])) (hl : bs.length = n) : OwB w base (some ⟨g, 0, none⟩) n (n + 2) bs := by
  have := h.trim (k := n) (by omega)
  rwa [List.take_left' hl] at this
theorem own_lt {w : World} {base g n c : Nat} {bs : List UInt8} (h : OwB w base (some ⟨g, 0, none⟩) n c bs) (hc : 0 < c) : g < w.heap.size := by
  obtain ⟨g', cur, e, _, hb, _⟩ := h.2.2.2 hc
  simp only [Option.some.injEq, Addr.mk.injEq, and_true] at e
  subst e
  exact hb.lt
theorem aggFr : AggT Try.prog 24 4 := ⟨⟨_, Try.underlying24, rfl⟩, by kernel_rfl⟩
theorem zeroFr : (Try.prog.info? 24).bind (·.zero) = some (.agg #[.int .i64 0, .int .i64 0, .int .i64 0, .slice none 0 0]) := by kernel_rfl
end Go.Proofs.Ytjjpifppdjpcnaa
