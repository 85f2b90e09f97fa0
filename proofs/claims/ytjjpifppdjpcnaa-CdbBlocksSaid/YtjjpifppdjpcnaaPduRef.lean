/-
  The reference's Encode of frames.
-/
import Derived.Test.YtjjpifppdjpcnaaPdu
namespace Go.Proofs.Ytjjpifppdjpcnaa
open Go.RowKit
set_option linter.unusedVariables false
set_option linter.unusedSimpArgs false
set_option maxRecDepth 100000

/-- What the reference hands back: a frame's bytes and whether it is in form. -/
theorem refencode_bad {w : World} {A : Option Addr} {m c : Nat} (kind n code : Int) (hm : m ≤ 9223372036854775807) (h : ¬ okF kind n code m) :
    Calls Try.prog 16 #[.agg #[.int .i64 kind, .int .i64 n, .int .i64 code, .slice A m c]] w fun e w' => e = .returned (.tuple #[.slice none 0 0, .bool false]) ∧ Below w.heap.size w w' := by
  have H := Lib.hid (show kind < 1 ∨ 8 < kind ∨ n < 0 ∨ 4294967295 < n ∨ code < 0 ∨ 255 < code ∨ (4096 : Int) < (m : Int) by
    unfold okF at h; omega)
  clear h
  go_enter Try.func16, Try.ntmps16
  go_wp2_with fail
  all_goals first
    | (exfalso; have := H.out; omega)
    | (go_ret2; exact ⟨rfl, below_alloc _ _⟩)

theorem numB_one (x : Int) : numB x 1 1 = [byteAt x 0] := rfl
set_option maxHeartbeats 2000000 in
theorem refencode_ok {w : World} {B : Nat} {A : Option Addr} {m c : Nat} {ds : List UInt8} (kind n code : Int) (hd : SlB w B A m c ds) (hB : B ≤ w.heap.size) (h : okF kind n code m) :
    Calls Try.prog 16 #[.agg #[.int .i64 kind, .int .i64 n, .int .i64 code, .slice A m c]] w fun e w' => ∃ A' c', e = .returned (.tuple #[.slice A' (8 + m) c', .bool true]) ∧ OwB w' w.heap.size A' (8 + m) c' (frB kind n code ds) ∧ Below w.heap.size w w' := by
  obtain ⟨h1, h2, h3, h4, h5, h6, h7⟩ := h
  have hm : (m : Int) ≤ 4096 := by omega
  obtain ⟨g1, hg1⟩ : ∃ g, g = w.heap.size := ⟨_, rfl⟩
  obtain ⟨v, hv⟩ : ∃ v, v = w.alloc (.cells #[.int .i64 kind, .int .i64 n, .int .i64 code, .slice A m c] 24) := ⟨_, rfl⟩
  have b1 : Blk v g1 24 #[.int .i64 kind, .int .i64 n, .int .i64 code, .slice A m c] := by rw [hv, hg1]; exact Blk.new _ _ _
  have hbv : Below w.heap.size w v := by rw [hv]; exact below_alloc _ _
  have hz := hbv.size
  have d0 : v.cell? ⟨g1, 0, none⟩ = some (.int .i64 kind) := by rw [b1.cell]; rfl
  have d1 : v.cell? ⟨g1, 1, none⟩ = some (.int .i64 n) := by rw [b1.cell]; rfl
  have d2 : v.cell? ⟨g1, 2, none⟩ = some (.int .i64 code) := by rw [b1.cell]; rfl
  have d3 : v.cell? ⟨g1, 3, none⟩ = some (.slice A m c) := by rw [b1.cell]; rfl
  have HD := Lib.hid (hd.below (hbv.mono hB))
  have HV := Lib.hid hv
  have HG := Lib.hid hg1
  have HL := Lib.hid hd.len
  have hgv := b1.lt
  have HB1 := Lib.hid b1
  have k8 : IntKind.u8.wrap kind = ((byteAt kind 0).toNat : Int) := by have := byteAt_wrap kind 0; simpa using this
  have c8 : IntKind.u8.wrap code = ((byteAt code 0).toNat : Int) := by have := byteAt_wrap code 0; simpa using this
  clear hv hg1 hd b1
  go_enter Try.func16, Try.ntmps16
  go_wp2_with fail
  rw [← HV.out, ← HG.out]
  refine (number_ok (k := 4) n (WalkArith.wf_i64 (by omega)) (okPut_four.2 ⟨h3, h4⟩)).mono ?_
  rintro e w1 ⟨A1, c1, rfl, ho1, hb1⟩
  have hz1 := hb1.size
  have e0 := (hb1.cell (p := ⟨g1, 0, none⟩) hgv).trans d0
  have e2 := (hb1.cell (p := ⟨g1, 2, none⟩) hgv).trans d2
  have e3 := (hb1.cell (p := ⟨g1, 3, none⟩) hgv).trans d3
  have hl1 : OwB (w1.alloc (.cells #[.int .u8 ((byteAt kind 0).toNat : Int)] 5)) v.heap.size (some ⟨w1.heap.size, 0, none⟩) 1 1 [byteAt kind 0] := OwB.lit w1 v.heap.size _ [byteAt kind 0] 1 hz1 rfl (by simp [maxLen]) rfl
  have hal1 := hb1.alloc hz1 (.cells #[.int .u8 ((byteAt kind 0).toNat : Int)] 5)
  have hza1 : v.heap.size ≤ (w1.alloc (.cells #[.int .u8 ((byteAt kind 0).toNat : Int)] 5)).heap.size := hal1.size
  have ho1' := (ho1.alloc (.cells #[.int .u8 ((byteAt kind 0).toNat : Int)] 5)).sl
  go_wp2_with (first
    | (at_builtin; refine wpList_append8 rfl (.tmp 50) (.tmp 51) rfl rfl hl1 rfl ho1' (by omega) hza1 5 rfl ?_; intro A2 c2 w2 h2' q2; have hv2 : Below v.heap.size v w2 := q2.below hl1 hal1 (Nat.le_refl _) hza1; have hz2 := hv2.size; have f2 := (hv2.cell (p := ⟨g1, 2, none⟩) hgv).trans d2; have hl2 := SlB.new w2 #[.int .u8 ((byteAt code 0).toNat : Int)] [byteAt code 0] 1 (B := w2.heap.size + 1) (Nat.lt_succ_self _) rfl (by simp [maxLen]) rfl; have h2a := OwB.alloc h2' (.cells #[.int .u8 ((byteAt code 0).toNat : Int)] 5); have hv2a := hv2.alloc hz2 (.cells #[.int .u8 ((byteAt code 0).toNat : Int)] 5); have hz2a := hv2a.size)
    | (at_builtin; refine wpList_append8 rfl (.tmp 53) (.tmp 57) rfl rfl h2a rfl hl2 (by omega) hz2a 6 rfl ?_; intro A3 c3 w3 h3' q3; have hv3 : Below v.heap.size v w3 := q3.below h2a hv2a (Nat.le_refl _) hz2a; have hz3 := hv3.size; have f3 := (hv3.cell (p := ⟨g1, 3, none⟩) hgv).trans d3)
    | (go_at_call 43; refine (refrow_ok (HD.out.below (hv3.mono (Nat.le_trans hB hz))) (Nat.le_trans hB (Nat.le_trans hz hz3)) (by omega)).mono ?_; rintro e w4 ⟨A4, c4, rfl, ho4, hb4⟩; have h3b := OwB.below h3' hb4; have hv4 := hv3.trans (hb4.mono hz3); have hz4 := hv4.size)
    | (at_builtin; refine wpList_append8 rfl (.tmp 59) (.tmp 62) rfl rfl h3b rfl ho4.sl (by omega) hz4 (8 + m) (by omega) ?_; intro A5 c5 w5 h5' q5; have hv5 : Below v.heap.size v w5 := q5.below h3b hv4 (Nat.le_refl _) hz4))
  go_ret2
  refine ⟨A5, c5, rfl, ?_, hbv.trans (hv5.mono hz)⟩
  have hfin := Row.base_le h5' (b' := w.heap.size) hz
  rw [frB, numsF, HL.out, numB_one, numB_one]
  exact hfin

theorem ten_c (w : World) : Calls Try.prog 14 #[] w fun e w' => e = .returned (.string ⟨#[7, 0, 0, 0, 0, 10, 0, 0]⟩) ∧ w = w' := by
  go_enter Try.func14, Try.ntmps14
  go_wp2_with fail
  go_ret
  exact ⟨rfl, rfl⟩
theorem frB_ten : frB 7 0 10 [] = [7, 0, 0, 0, 0, 10, 0, 0] := by decide
theorem okF_ten : okF 7 0 10 0 := by unfold okF; omega
end Go.Proofs.Ytjjpifppdjpcnaa
