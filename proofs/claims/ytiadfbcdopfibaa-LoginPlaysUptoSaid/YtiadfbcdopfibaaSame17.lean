/-
  When two frames are the same (lines of XPduDec).
-/
import Derived.Test.YtiadfbcdopfibaaBase
namespace Go.Proofs.Ytiadfbcdopfibaa
open Go.RowKit
set_option linter.unusedVariables false
set_option linter.unusedSimpArgs false
set_option maxRecDepth 100000


theorem same17_c {w : World} {B B' : Nat} {A A' : Option Addr} {m c m' c' : Nat} {ds : List UInt8} (k n x : Int) (h : SlB w B A m c ds) (h' : SlB w B' A' m' c' ds) (hB : B ≤ w.heap.size) (hB' : B' ≤ w.heap.size) :
    Calls Try.prog 25 #[.agg #[.int .i64 k, .int .i64 n, .int .i64 x, .slice A m c], .agg #[.int .i64 k, .int .i64 n, .int .i64 x, .slice A' m' c']] w fun e w' => e = .returned (.bool true) ∧ Below w.heap.size w w' := by
  obtain ⟨v, hv⟩ : ∃ v, v = (w.alloc (.cells #[.int .i64 k, .int .i64 n, .int .i64 x, .slice A m c] 36)).alloc (.cells #[.int .i64 k, .int .i64 n, .int .i64 x, .slice A' m' c'] 36) := ⟨_, rfl⟩
  have b2 : Blk v w.heap.size 36 #[.int .i64 k, .int .i64 n, .int .i64 x, .slice A m c] := by rw [hv]; exact (Blk.new w _ _).alloc _
  have b3 : Blk v (w.heap.size + 1) 36 #[.int .i64 k, .int .i64 n, .int .i64 x, .slice A' m' c'] := by
    have := Blk.new (w.alloc (.cells #[.int .i64 k, .int .i64 n, .int .i64 x, .slice A m c] 36)) 36 #[.int .i64 k, .int .i64 n, .int .i64 x, .slice A' m' c']
    rw [World.size_alloc] at this
    rw [hv]; exact this
  have hw : Below w.heap.size w v := by rw [hv]; exact ((Below.refl _ _).alloc (Nat.le_refl _) _).alloc (by simp) _
  have p0 : v.cell? ⟨w.heap.size, 0, none⟩ = some (.int .i64 k) := by rw [b2.cell]; rfl
  have p1 : v.cell? ⟨w.heap.size, 1, none⟩ = some (.int .i64 n) := by rw [b2.cell]; rfl
  have p2 : v.cell? ⟨w.heap.size, 2, none⟩ = some (.int .i64 x) := by rw [b2.cell]; rfl
  have p3 : v.cell? ⟨w.heap.size, 3, none⟩ = some (.slice A m c) := by rw [b2.cell]; rfl
  have q0 : v.cell? ⟨w.heap.size + 1, 0, none⟩ = some (.int .i64 k) := by rw [b3.cell]; rfl
  have q1 : v.cell? ⟨w.heap.size + 1, 1, none⟩ = some (.int .i64 n) := by rw [b3.cell]; rfl
  have q2 : v.cell? ⟨w.heap.size + 1, 2, none⟩ = some (.int .i64 x) := by rw [b3.cell]; rfl
  have q3 : v.cell? ⟨w.heap.size + 1, 3, none⟩ = some (.slice A' m' c') := by rw [b3.cell]; rfl
  have e1 := (h.below (hw.mono hB)).str
  have e2 := (h'.below (hw.mono hB')).str
  have HV := Lib.hid hv
  clear hv h h' b2 b3
  obtain ⟨S, hS⟩ : ∃ S : ByteArray, S = ⟨ds.toArray⟩ := ⟨_, rfl⟩
  rw [← hS] at e1 e2
  clear hS
  go_enter Try.func25, Try.ntmps25
  refine wp_seq_k fun K hK => ?_
  have HK := Lib.hid hK
  clear hK
  go_wp2_with fail
  rw [← HV.out]
  refine HK.out _ _ ?_
  go_wp2_with fail
  go_ret
  exact ⟨rfl, hw⟩
end Go.Proofs.Ytiadfbcdopfibaa
