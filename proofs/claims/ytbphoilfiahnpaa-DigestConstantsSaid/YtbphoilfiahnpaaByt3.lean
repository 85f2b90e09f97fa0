/-
  Byte slices of the call's own: opened, written.
-/
import Derived.Test.YtbphoilfiahnpaaByt2
namespace Go.Proofs.Ytbphoilfiahnpaa
open Go.RowKit
set_option linter.unusedVariables false

section
variable {w w' : World} {base : Nat} {A : Option Addr} {n c : Nat} {bs : List UInt8}
theorem OwB.le (h : OwB w base A n c bs) : n ≤ c := h.2.1
theorem OwB.cap (h : OwB w base A n c bs) : c ≤ 9223372036854775807 := h.2.2.1
/-- Where there is room: the block, its cells, what they hold. -/
theorem OwB.open_ (h : OwB w base A n c bs) (hc : 0 < c) : ∃ g cur, A = some ⟨g, 0, none⟩ ∧ base ≤ g ∧ Blk w g 5 cur ∧ c ≤ cur.size ∧ cur.toList.take n = bs.map b8 := by
  obtain ⟨g, cur, e, hg, hb, hs, ht⟩ := h.2.2.2 hc
  exact ⟨g, cur, e, hg, hb, by rw [Nat.mul_one] at hs; exact hs, by rw [← ht, Nat.mul_one]⟩
theorem OwB.shut {g : Nat} {cur : Array Value} (hb : Blk w g 5 cur) (hg : base ≤ g) (hs : c ≤ cur.size) (hn : n ≤ c) (hc : c ≤ maxLen) (ht : cur.toList.take n = bs.map b8) (hl : bs.length = n) : OwB w base (some ⟨g, 0, none⟩) n c bs :=
  ⟨by rw [List.length_map, hl, Nat.mul_one], hn, hc, fun _ => ⟨g, cur, rfl, hg, hb, by rw [Nat.mul_one]; exact hs, by rw [Nat.mul_one, ht]⟩⟩
theorem take_get {cur : Array Value} {n : Nat} {bs : List UInt8} (ht : cur.toList.take n = bs.map b8) {j : Nat} (hj : j < bs.length) : cur[j]? = some (b8 bs[j]) := by
  have hl : (cur.toList.take n).length = bs.length := by rw [ht, List.length_map]
  rw [List.length_take] at hl
  have h1 : (cur.toList.take n)[j]? = cur[j]? := by rw [List.getElem?_take, if_pos (by omega)]; simp
  rw [← h1, ht, List.getElem?_map, List.getElem?_eq_getElem hj]
  rfl
theorem OwB.cellAt {g : Nat} (h : OwB w base (some ⟨g, 0, none⟩) n c bs) {j : Nat} (hj : j < bs.length) : w.cell? ⟨g, j, none⟩ = some (.int .u8 (bs[j].toNat : Int)) := by
  have hl := h.len
  obtain ⟨g', cur, e, _, hb, _, ht⟩ := h.open_ (by have := h.2.1; omega)
  simp only [Option.some.injEq, Addr.mk.injEq, and_true] at e
  subst e
  rw [hb.cell, take_get ht hj]
  rfl
theorem OwB.frozenAt {g : Nat} (h : OwB w base (some ⟨g, 0, none⟩) n c bs) (hc : 0 < c) (j : Nat) : w.frozen? ⟨g, j, none⟩ = false := by
  obtain ⟨g', cur, e, _, hb, _, ht⟩ := h.open_ hc
  simp only [Option.some.injEq, Addr.mk.injEq, and_true] at e
  subst e
  exact hb.frozen j
/-- A byte is written. -/
theorem OwB.set_ {g : Nat} (h : OwB w base (some ⟨g, 0, none⟩) n c bs) {j : Nat} (hj : j < n) (x : UInt8) : OwB (w.setCell ⟨g, j, none⟩ (.int .u8 (x.toNat : Int))) base (some ⟨g, 0, none⟩) n c (bs.set j x) := by
  have hl := h.len
  obtain ⟨g', cur, e, hg, hb, hs, ht⟩ := h.open_ (by have := h.2.1; omega)
  simp only [Option.some.injEq, Addr.mk.injEq, and_true] at e
  subst e
  refine OwB.shut (hb.set_ j _) hg (by rw [Array.size_setIfInBounds]; exact hs) h.2.1 h.2.2.1 ?_ (by rw [List.length_set, hl])
  rw [Array.toList_setIfInBounds, List.take_set, ht, List.map_set]
  rfl
end
/-- The same rows side by side: a byte changed makes another row. -/
theorem set_ne {bs : List UInt8} {j : Nat} (hj : j < bs.length) {x : UInt8} (hx : x ≠ bs[j]) : bs ≠ bs.set j x := by
  intro e
  have h : bs[j]? = (bs.set j x)[j]? := by rw [← e]
  rw [List.getElem?_set_self hj, List.getElem?_eq_getElem hj, Option.some.injEq] at h
  exact hx h.symm
end Go.Proofs.Ytbphoilfiahnpaa
