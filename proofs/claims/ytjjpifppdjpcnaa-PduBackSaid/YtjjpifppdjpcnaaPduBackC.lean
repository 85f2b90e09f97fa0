/-
  pdu.Same; what is no frame: a beginning of a frame, and a frame with one byte more.
-/
import Derived.Test.YtjjpifppdjpcnaaPduDec
import Derived.Test.YtjjpifppdjpcnaaErr
namespace Go.Proofs.Ytjjpifppdjpcnaa
open Go.RowKit
set_option linter.unusedVariables false
set_option linter.unusedSimpArgs false
set_option maxRecDepth 100000

theorem bequal_c {w : World} {B B' : Nat} {A A' : Option Addr} {n n' c c' : Nat} {xs bs : List UInt8} (ha : SlB w B A n c xs) (hb : SlB w B' A' n' c' bs) (r : Bool) (hr : (xs == bs) = r) :
    Calls Try.prog 52 #[.slice A n c, .slice A' n' c'] w fun e w' => e = .returned (.bool r) ∧ w = w' := by
  have h1 := ha.str
  have h2 := hb.str
  have HR := Lib.hid hr
  clear hr ha hb
  go_enter Try.func52, Try.ntmps52
  go_wp2
  go_ret
  exact ⟨by rw [HR.out]; rfl, rfl⟩
theorem samep_c {w : World} {B B' : Nat} {A A' : Option Addr} {m c m' c' : Nat} {ds : List UInt8} (k n x : Int) (h : SlB w B A m c ds) (h' : SlB w B' A' m' c' ds) (hB : B ≤ w.heap.size) (hB' : B' ≤ w.heap.size) :
    Calls Try.prog 26 #[.agg #[.int .i64 k, .int .i64 n, .int .i64 x, .slice A m c], .agg #[.int .i64 k, .int .i64 n, .int .i64 x, .slice A' m' c']] w fun e w' => e = .returned (.bool true) ∧ Below w.heap.size w w' := by
  obtain ⟨v, hv⟩ : ∃ v, v = (w.alloc (.cells #[.int .i64 k, .int .i64 n, .int .i64 x, .slice A m c] 24)).alloc (.cells #[.int .i64 k, .int .i64 n, .int .i64 x, .slice A' m' c'] 24) := ⟨_, rfl⟩
  have b2 : Blk v w.heap.size 24 #[.int .i64 k, .int .i64 n, .int .i64 x, .slice A m c] := by rw [hv]; exact (Blk.new w _ _).alloc _
  have b3 : Blk v (w.heap.size + 1) 24 #[.int .i64 k, .int .i64 n, .int .i64 x, .slice A' m' c'] := by
    have := Blk.new (w.alloc (.cells #[.int .i64 k, .int .i64 n, .int .i64 x, .slice A m c] 24)) 24 #[.int .i64 k, .int .i64 n, .int .i64 x, .slice A' m' c']
    rw [World.size_alloc] at this
    rw [hv]; exact this
  have hw : Below w.heap.size w v := by rw [hv]; exact ((Below.refl _ _).alloc (Nat.le_refl _) _).alloc (by simp) _
  have p0 : v.cell? ⟨w.heap.size, 0, none⟩ = some (.int .i64 k) := by rw [b2.cell]; rfl
  have p1 : v.cell? ⟨w.heap.size, 1, none⟩ = some (.int .i64 n) := by rw [b2.cell]; rfl
  have p2 : v.cell? ⟨w.heap.size, 2, none⟩ = some (.int .i64 x) := by rw [b2.cell]; rfl
  have p3 : v.cell? ⟨w.heap.size, 3, none⟩ = some (.slice A m c) := by rw [b2.cell]; rfl
  have q0 : v.cell? ⟨w.heap.size + 1, 0, none⟩ = some (.int .i64 k) := by rw [b3.cell]; rfl
  have q1 : v.cell? ⟨w.heap.size + 1, 1, none⟩ = some (.int .i64 n) := by rw [b3.cell]; rfl
  have q2 : v.cell? ⟨w.heap.size + 1, 2, none⟩ = some (.int .i64 x) := by rw [b3.cell]; rfl
  have q3 : v.cell? ⟨w.heap.size + 1, 3, none⟩ = some (.slice A' m' c') := by rw [b3.cell]; rfl
  have E1 := Lib.hid (h.below (hw.mono hB))
  have E2 := Lib.hid (h'.below (hw.mono hB'))
  have HV := Lib.hid hv
  clear hv h h' b2 b3
  go_enter Try.func26, Try.ntmps26
  refine wp_seq_k fun K hK => ?_
  have HK := Lib.hid hK
  clear hK
  go_wp2_with fail
  rw [← HV.out]
  refine HK.out _ _ ?_
  go_wp2_with (go_at_call 52; refine (bequal_c E1.out E2.out true (by simp)).mono ?_; rintro e w' ⟨rfl, rfl⟩)
  go_ret
  exact ⟨rfl, hw⟩

theorem head2_inj {a b : Nat} (ha : a ≤ 65535) (hb : b ≤ 65535) (h : head2 a = head2 b) : a = b := by
  simp only [head2, List.cons.injEq, and_true] at h
  obtain ⟨h1, h2⟩ := h
  have e1 := congrArg UInt8.toNat h1
  have e2 := congrArg UInt8.toNat h2
  rw [UInt8.toNat_ofNat', UInt8.toNat_ofNat'] at e1 e2
  omega
theorem not_dec_take {k n c : Int} {ds : List UInt8} (h : okF k n c ds.length) {j : Nat} (hj : j < 8 + ds.length) : ¬ decOk ((frB k n c ds).take j) := by
  rintro ⟨h8, ho, hh⟩
  have hm : ds.length ≤ 4096 := h.2.2.2.2.2.2
  have hl : ((frB k n c ds).take j).length = j := by rw [List.length_take, len_frB]; omega
  rw [hl] at h8 ho hh
  obtain ⟨_, _, _, _, e6⟩ := frB_dec h
  have e : (((frB k n c ds).take j).drop 6).take 2 = head2 ds.length := by
    rw [List.drop_take, List.take_take, Nat.min_eq_left (by omega), e6]
    rfl
  rw [e] at hh
  have := head2_inj (by omega) (by omega) hh
  omega
theorem not_dec_more {k n c : Int} {ds : List UInt8} (h : okF k n c ds.length) (x : UInt8) : ¬ decOk (frB k n c ds ++ [x]) := by
  rintro ⟨h8, ho, hh⟩
  have hm : ds.length ≤ 4096 := h.2.2.2.2.2.2
  have hl : (frB k n c ds ++ [x]).length = 9 + ds.length := by rw [List.length_append, len_frB]; simp; omega
  rw [hl] at h8 ho hh
  obtain ⟨_, _, _, _, e6⟩ := frB_dec h
  have e : ((frB k n c ds ++ [x]).drop 6).take 2 = head2 ds.length := by
    rw [List.drop_append_of_le_length (by rw [len_frB]; omega), e6]
    rfl
  rw [e] at hh
  have := head2_inj (by omega) (by omega) hh
  omega
end Go.Proofs.Ytjjpifppdjpcnaa
