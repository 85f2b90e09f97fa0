/-
  Decode of frames by the plain law; when two frames are the same.
-/
import Derived.Test.YtjjpifppdjpcnaaDec
import Derived.Test.YtjjpifppdjpcnaaDecRef
namespace Go.Proofs.Ytjjpifppdjpcnaa
open Go.RowKit
set_option linter.unusedVariables false
set_option linter.unusedSimpArgs false
set_option maxRecDepth 100000

section
variable {w : World} {B : Nat} {A : Option Addr} {n c : Nat} {bs : List UInt8}
theorem decode_yes (hb : SlB w B A n c bs) (hB : B ≤ w.heap.size) (hn : n ≤ 140737488280000) (h : decOk bs) :
    Calls Try.prog 23 #[.slice A n c] w fun e w' => ∃ A' c', e = .returned (.tuple #[.agg #[.int .i64 (d0 bs), .int .i64 (d1 bs), .int .i64 (d2 bs), .slice A' (n - 8) c'], .nilIface]) ∧ OwB w' w.heap.size A' (n - 8) c' (bs.drop 8) ∧ Below w.heap.size w w' := by
  have hl := hb.len
  obtain ⟨h8, hok, hh⟩ := h
  have hm : bs.length - 8 ≤ 4096 := hok.2.2.2.2.2.2
  have hrow := dec_row h8 (by omega) hh
  rw [hl] at hok hrow
  exact decode_ok hb hB hn (by omega) hrow hok (by omega)
theorem decode_no (hb : SlB w B A n c bs) (hB : B ≤ w.heap.size) (hn : n ≤ 140737488280000) (h : ¬ decOk bs) :
    Calls Try.prog 23 #[.slice A n c] w fun e w' => e = .returned (.tuple #[.agg #[.int .i64 0, .int .i64 0, .int .i64 0, .slice none 0 0], .iface 35 (.int .i64 10)]) ∧ Below w.heap.size w w' := by
  have hl := hb.len
  by_cases h1 : n < 1
  · exact decode_short0 hb hB hn h1
  by_cases h5 : n < 5
  · exact decode_short1 hb hB hn ⟨by omega, h5⟩
  by_cases h6 : n < 6
  · exact decode_short2 hb hB hn ⟨by omega, h6⟩
  cases hrow : rowLen (bs.drop 6) with
  | none => exact decode_none hb hB hn (by omega) hrow
  | some m =>
    have h2 := (rowLen_some hrow).1
    rw [List.length_drop] at h2
    by_cases hok : okF (d0 bs) (d1 bs) (d2 bs) m
    · by_cases hm : 8 + m = n
      · refine absurd ⟨by omega, ?_, ?_⟩ h
        · rw [show bs.length - 8 = m by omega]; exact hok
        · rw [show bs.length - 8 = m by omega]; exact head_of_rowLen hrow
      · exact decode_long hb hB hn (by omega) hrow hok (by omega)
    · exact decode_bad hb hB hn (by omega) hrow hok
theorem refdecode_yes (hb : SlB w B A n c bs) (hB : B ≤ w.heap.size) (hn : n ≤ 1048576) (h : decOk bs) :
    Calls Try.prog 24 #[.slice A n c] w fun e w' => ∃ A' c', e = .returned (.tuple #[.agg #[.int .i64 (d0 bs), .int .i64 (d1 bs), .int .i64 (d2 bs), .slice A' (n - 8) c'], .bool true]) ∧ OwB w' w.heap.size A' (n - 8) c' (bs.drop 8) ∧ Below w.heap.size w w' := by
  have hl := hb.len
  have hs := frB_parts h
  obtain ⟨h8, hok, hh⟩ := h
  rw [hl] at hok h8
  exact refdecode_ok hb hB hn h8 hok hs
theorem refdecode_no (hb : SlB w B A n c bs) (hB : B ≤ w.heap.size) (hn : n ≤ 1048576) (h : ¬ decOk bs) :
    Calls Try.prog 24 #[.slice A n c] w fun e w' => e = .returned (.tuple #[.agg #[.int .i64 0, .int .i64 0, .int .i64 0, .slice none 0 0], .bool false]) ∧ Below w.heap.size w w' := by
  have hl := hb.len
  by_cases h8 : n < 8
  · exact refdecode_short h8
  by_cases hok : okF (d0 bs) (d1 bs) (d2 bs) (n - 8)
  · refine refdecode_other hb hB hn (by omega) hok (fun e => h ?_)
    have := frB_ok (k := d0 bs) (n := d1 bs) (c := d2 bs) (ds := bs.drop 8) (by rw [List.length_drop, hl]; exact hok)
    rwa [e] at this
  · exact refdecode_bad hb hB hn (by omega) hok
end

theorem same17_c {w : World} {B B' : Nat} {A A' : Option Addr} {m c m' c' : Nat} {ds : List UInt8} (k n x : Int) (h : SlB w B A m c ds) (h' : SlB w B' A' m' c' ds) (hB : B ≤ w.heap.size) (hB' : B' ≤ w.heap.size) :
    Calls Try.prog 25 #[.agg #[.int .i64 k, .int .i64 n, .int .i64 x, .slice A m c], .agg #[.int .i64 k, .int .i64 n, .int .i64 x, .slice A' m' c']] w fun e w' => e = .returned (.bool true) ∧ Below w.heap.size w w' := by
  obtain ⟨v, hv⟩ : ∃ v, v = (w.alloc (.cells #[.int .i64 k, .int .i64 n, .int .i64 x, .slice A m c] 24)).alloc (.cells #[.int .i64 k, .int .i64 n, .int .i64 x, .slice A' m' c'] 24) := ⟨_, rfl⟩
  have b2 : Blk v w.heap.size 24 #[.int .i64 k, .int .i64 n, .int .i64 x, .slice A m c] := by rw [hv]; exact (Blk.new w _ _).alloc _
  have b3 : Blk v (w.heap.size + 1) 24 #[.int .i64 k, .int .i64 n, .int .i64 x, .slice A' m' c'] := by
    have := Blk.new (w.alloc (.cells #[.int .i64 k, .int .i64 n, .int .i64 x, .slice A m c] 24)) 24 #[.int .i64 k, .int .i64 n, .int .i64 x, .slice A' m' c']
    rw [World.size_alloc] at this
    rw [hv]; exact this
  have hw : Below w.heap.size w v := by rw [hv]; exact ((Below.refl _ _).alloc (Nat.le_refl _) _).alloc (by simp) _
  have p0 : v.cell? ⟨w.heap.size, 0, none⟩ = some (.int .i64 k) := by rw [b2.cell]; rfl
  have p1 : v.cell? ⟨w.heap.size, 1, none⟩ = some (.int .i64 n) := by rw [b2.cell]; rfl
  have p2 : v.cell? ⟨w.heap.size, 2, none⟩ = some (.int .i64 x) := by rw [b2.cell]; rfl
  have p3 : v.cell? ⟨w.heap.size, 3, none⟩ = some (.slice A m c) := by rw [b2.cell]; rfl
  have q0 : v.cell? ⟨w.heap.size + 1, 0, none⟩ = some (.int .i64 k) := by rw [b3.cell]; rfl
  have q1 : v.cell? ⟨w.heap.size + 1, 1, none⟩ = some (.int .i64 n) := by rw [b3.cell]; rfl
  have q2 : v.cell? ⟨w.heap.size + 1, 2, none⟩ = some (.int .i64 x) := by rw [b3.cell]; rfl
  have q3 : v.cell? ⟨w.heap.size + 1, 3, none⟩ = some (.slice A' m' c') := by rw [b3.cell]; rfl
  have e1 := (h.below (hw.mono hB)).str
  have e2 := (h'.below (hw.mono hB')).str
  have HV := Lib.hid hv
  clear hv h h' b2 b3
  obtain ⟨S, hS⟩ : ∃ S : ByteArray, S = ⟨ds.toArray⟩ := ⟨_, rfl⟩
  rw [← hS] at e1 e2
  clear hS
  go_enter Try.func25, Try.ntmps25
  refine wp_seq_k fun K hK => ?_
  have HK := Lib.hid hK
  clear hK
  go_wp2_with fail
  rw [← HV.out]
  refine HK.out _ _ ?_
  go_wp2_with fail
  go_ret
  exact ⟨rfl, hw⟩
end Go.Proofs.Ytjjpifppdjpcnaa
