/-
  The verifier's helpers on bytes: Same, Copy, Kept, Over.
-/
import Derived.Test.YtkiiobfomnggcaaBase
namespace Go.Proofs.Ytkiiobfomnggcaa
open Go.RowKit
set_option linter.unusedVariables false
set_option maxRecDepth 100000

theorem same_c {w : World} {B B' : Nat} {A A' : Option Addr} {n n' c c' : Nat} {xs bs : List UInt8} (ha : SlB w B A n c xs) (hb : SlB w B' A' n' c' bs) (r : Bool) (hr : (xs == bs) = r) :
    Calls Try.prog 13 #[.slice A n c, .slice A' n' c'] w fun e w' => e = .returned (.bool r) ∧ w = w' := by
  have h1 := ha.str
  have h2 := hb.str
  have HR := Lib.hid hr
  clear hr ha hb
  go_enter Try.func13, Try.ntmps13
  go_wp2
  go_ret
  exact ⟨by rw [HR.out]; rfl, rfl⟩

/-- Copy: a new row of its own, the bytes, two marks behind them. -/
theorem copy_c {w : World} {B : Nat} {A : Option Addr} {n c : Nat} {bs : List UInt8} (ha : SlB w B A n c bs) (hB : B ≤ w.heap.size) (hn : n ≤ 140737488351232) :
    Calls Try.prog 9 #[.slice A n c] w fun e w' => e = .returned (.slice (some ⟨w.heap.size, 0, none⟩) n (n + 2)) ∧
      OwB w' w.heap.size (some ⟨w.heap.size, 0, none⟩) (n + 2) (n + 2) (bs ++ [0xa5, 0x5a]) ∧ Below w.heap.size w w' := by
  have hmk := fun W => run_make8 0 (n + 2) 0 ((n : Int) + 2) rfl (by omega) (by omega) (by omega) W
  have h0 : OwB (w.alloc (.cells (zeros8 (n + 2)) 5)) w.heap.size (some ⟨w.heap.size, 0, none⟩) 0 (n + 2) [] := OwB.new w w.heap.size (n + 2) (Nat.le_refl _) (by simp only [maxLen]; omega)
  have hb0 : Below w.heap.size w (w.alloc (.cells (zeros8 (n + 2)) 5)) := (Below.refl _ _).alloc (Nat.le_refl _) _
  have hs1 := ha.alloc hB (.cells (zeros8 (n + 2)) 5)
  have HL := Lib.hid ha.len
  clear ha
  go_enter Try.func9, Try.ntmps9
  go_wp2_with (first
    | (at_builtin; refine wpList_append8 rfl (.tmp 6) (.tmp 7) rfl rfl h0 rfl hs1 (by omega) (by simp) n (by omega) ?_; intro A1 c1 w1 h1 q1; obtain ⟨rfl, rfl⟩ := q1.stay (by omega); have hb1 := q1.below h0 hb0 (Nat.le_refl _) (by simp))
    | (at_builtin; refine wpList_append8 rfl (.tmp 8) (.tmp 9) rfl rfl (h1.alloc _) rfl (SlB.new w1 _ [0xa5, 0x5a] 2 (Nat.lt_succ_self _) rfl (by simp [maxLen]) rfl) (by omega) (Nat.le_trans hb1.size (by simp)) (n + 2) rfl ?_; intro A2 c2 w2 h2 q2; obtain ⟨rfl, rfl⟩ := q2.stay (by omega); have hb2 := q2.below (h1.alloc _) (hb1.alloc hb1.size _) (Nat.le_refl _) (Nat.le_trans hb1.size (by simp))))
  go_ret
  exact ⟨rfl, h2, hb2⟩

/-- Kept: a copy that says what the bytes say, its marks standing. -/
theorem kept_c {w : World} {B B' : Nat} {A : Option Addr} {g n c : Nat} {bs : List UInt8} (hm : SlB w B' (some ⟨g, 0, none⟩) (n + 2) (n + 2) (bs ++ [0xa5, 0x5a])) (ha : SlB w B A n c bs) (hn : n ≤ 140737488351232) :
    Calls Try.prog 24 #[.slice (some ⟨g, 0, none⟩) n (n + 2), .slice A n c] w fun e w' => e = .returned (.bool true) ∧ w = w' := by
  have hl := ha.len
  have h1 : SlB w B' (some ⟨g, 0, none⟩) n (n + 2) bs := by
    have := hm.trim (k := n) (by omega)
    rwa [List.take_left' hl] at this
  have e1 := h1.str
  have e2 := ha.str
  obtain ⟨b, off, hb, _, hj⟩ := hm.at_ (by omega)
  simp only [Option.some.injEq, Addr.mk.injEq, and_true] at hb
  obtain ⟨rfl, rfl⟩ := hb
  have c1 : w.cell? ⟨g, n, none⟩ = some (.int .u8 165) := by
    have := hj n 0xa5 (by rw [List.getElem?_append_right (by omega), hl]; simp)
    simpa using this
  have c2 : w.cell? ⟨g, n + 1, none⟩ = some (.int .u8 90) := by
    have := hj (n + 1) 0x5a (by rw [List.getElem?_append_right (by omega), hl]; simp)
    simpa using this
  clear hm ha h1 hj hl
  go_enter Try.func24, Try.ntmps24
  go_wp2_with fail
  go_ret
  exact ⟨rfl, rfl⟩
end Go.Proofs.Ytkiiobfomnggcaa
