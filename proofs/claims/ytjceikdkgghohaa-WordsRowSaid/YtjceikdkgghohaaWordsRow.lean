/-
  WordsRow: a row behind any bytes, and taken from any bytes.
-/
import Derived.Test.YtjceikdkgghohaaRefRows
import Derived.Deep.RegionWith
import Derived.Deep.RegionHeldLaw
import Derived.Lib.SlBytesConst
namespace Go.Proofs.Ytjceikdkgghohaa.wordsRow
open Go.RowKit
set_option linter.unusedVariables false
set_option maxRecDepth 100000

/-- The row of Copy that stands is one's own, and reads as the bytes. -/
theorem copy_own {w : World} {base g n : Nat} {bs : List UInt8} (h : OwB w base (some ⟨g, 0, none⟩) (n + 2) (n + 2) (bs ++ [0xa5, 0x5a])) (hl : bs.length = n) : OwB w base (some ⟨g, 0, none⟩) n (n + 2) bs := by
  have := h.trim (k := n) (by omega)
  rwa [List.take_left' hl] at this
theorem slb_mark (w : World) : SlB (w.alloc (.cells #[.int .u8 97, .int .u8 98] 5 (2, 3))) (w.heap.size + 1) (some ⟨w.heap.size, 0, none⟩) 2 2 [97, 98] := by
  refine ⟨rfl, Nat.le_refl _, by simp [maxLen], fun _ => ⟨w.heap.size, 0, rfl, Nat.lt_succ_self _, fun j u hu => ?_⟩⟩
  rw [World.cell?_alloc_mark]
  match j, hu with
  | 0, hu => simpa [b8] using hu
  | 1, hu => simpa [b8] using hu

theorem far_all {ls : List Lst} (h : ls.Pairwise Lst.far) : ∀ (i j : Nat) (l m : Lst), i ≠ j → ls[i]? = some l → ls[j]? = some m → l.far m := by
  intro i j l m hne hi hj
  rw [List.getElem?_eq_some_iff] at hi hj
  obtain ⟨hi1, rfl⟩ := hi
  obtain ⟨hj1, rfl⟩ := hj
  rw [List.pairwise_iff_getElem] at h
  rcases Nat.lt_or_gt_of_ne hne with h1 | h1
  · exact h i j hi1 hj1 h1
  · exact Lst.far_symm (h j i hj1 hi1 h1)
/-- What a row wrote to lies below the heap's end. -/
theorem wrote_below {w : World} {base : Nat} {A : Option Addr} {n c : Nat} {bs : List UInt8} (h : OwB w base A n c bs) {B : Nat} (hB : w.heap.size ≤ B) : ∀ g, wrote A c = some g → g < B := by
  intro g hg
  rcases Row.wrote_lt h with h1 | ⟨g2, _, h1, _, h2, _⟩
  · rw [h1] at hg; cases hg
  · rw [h1] at hg; cases hg; omega
set_option maxHeartbeats 1000000 in
theorem apart5 {w wa wb wr wt W : World} {l1 l2 l3 l4 l5 : Lst} {b1 b2 b3 b4 b5 : List UInt8} (hza : w.heap.size ≤ wa.heap.size) (hzb : wa.heap.size ≤ wb.heap.size) (hzr : wb.heap.size ≤ wr.heap.size)
    (hz0 : ∀ g, wrote l4.A l4.c = some g → g < wa.heap.size) (hz01 : ∀ g, wrote l5.A l5.c = some g → g < wb.heap.size)
    (o1 : OwB wr wb.heap.size l1.A l1.n l1.c b1) (o2 : OwB wt wr.heap.size l2.A l2.n l2.c b2) (o3 : OwB wt wr.heap.size l3.A l3.n l3.c b3) (o4 : OwB wb w.heap.size l4.A l4.n l4.c b4) (o5 : OwB wb wa.heap.size l5.A l5.n l5.c b5)
    (hf : wrote l2.A l2.c = none ∨ wrote l2.A l2.c ≠ wrote l3.A l3.c) (hbr : Below wb.heap.size wb wr) (hbt : Below wr.heap.size wr wt) (hbW : Below wt.heap.size wt W)
    (n1 : l1.n ≤ 140737488355000) (n2 : l2.n ≤ 140737488355000) (n3 : l3.n ≤ 140737488355000) (n4 : l4.n ≤ 140737488355000) (n5 : l5.n ≤ 140737488355000) :
    Calls Try.prog 23 #[.slice (some ⟨W.heap.size, 0, none⟩) 5 5] (W.alloc (.cells #[l1.val, l2.val, l3.val, l4.val, l5.val] 25)) fun e w' => e = .returned (.bool true) ∧ Below w.heap.size (W.alloc (.cells #[l1.val, l2.val, l3.val, l4.val, l5.val] 25)) w' := by
  have hzt := hbt.size
  have hzW := hbW.size
  have hbase : w.heap.size ≤ W.heap.size := by omega
  refine apart_c (ls := [l1, l2, l3, l4, l5]) (Row.new W w.heap.size 25 1 #[l1.val, l2.val, l3.val, l4.val, l5.val] 5 5 hbase (Nat.le_refl _) (by simp [maxLen]) rfl) (Nat.le_trans hbase (by simp)) ?_ ?_ (far_all ?_) (by omega)
  · intro m l hm
    match m, hm with
    | 0, hm => simp at hm; subst hm; exact ⟨b1, Row.base_le (((o1.below hbt).below hbW).alloc _) (by omega), fun h => absurd h (by omega)⟩
    | 1, hm => simp at hm; subst hm; exact ⟨b2, Row.base_le ((o2.below hbW).alloc _) (by omega), fun h => absurd h (by omega)⟩
    | 2, hm => simp at hm; subst hm; exact ⟨b3, Row.base_le ((o3.below hbW).alloc _) (by omega), fun h => absurd h (by omega)⟩
    | 3, hm => simp at hm; subst hm; exact ⟨b4, (((o4.below hbr).below hbt).below hbW).alloc _, fun h => absurd h (by omega)⟩
    | 4, hm => simp at hm; subst hm; exact ⟨b5, Row.base_le ((((o5.below hbr).below hbt).below hbW).alloc _) (by omega), fun h => absurd h (by omega)⟩
  · intro l hl
    simp only [List.mem_cons, List.not_mem_nil, or_false] at hl
    rcases hl with rfl | rfl | rfl | rfl | rfl
    · exact n1
    · exact n2
    · exact n3
    · exact n4
    · exact n5
  · have f12 : l1.far l2 := Lst.far_symm (far_of_base (A := l2.A) (n := l2.n) o2 (wrote_below o1 (Nat.le_refl _)))
    have f13 : l1.far l3 := Lst.far_symm (far_of_base (A := l3.A) (n := l3.n) o3 (wrote_below o1 (Nat.le_refl _)))
    have lt4 : ∀ B, wa.heap.size ≤ B → ∀ g, wrote l4.A l4.c = some g → g < B := fun B hB g hg => Nat.lt_of_lt_of_le (hz0 g hg) hB
    have lt5 : ∀ B, wb.heap.size ≤ B → ∀ g, wrote l5.A l5.c = some g → g < B := fun B hB g hg => Nat.lt_of_lt_of_le (hz01 g hg) hB
    have f14 : l1.far l4 := far_of_base (A := l1.A) (n := l1.n) o1 (lt4 _ hzb)
    have f15 : l1.far l5 := far_of_base (A := l1.A) (n := l1.n) o1 (lt5 _ (Nat.le_refl _))
    have f24 : l2.far l4 := far_of_base (A := l2.A) (n := l2.n) o2 (lt4 _ (by omega))
    have f25 : l2.far l5 := far_of_base (A := l2.A) (n := l2.n) o2 (lt5 _ (by omega))
    have f34 : l3.far l4 := far_of_base (A := l3.A) (n := l3.n) o3 (lt4 _ (by omega))
    have f35 : l3.far l5 := far_of_base (A := l3.A) (n := l3.n) o3 (lt5 _ (by omega))
    have f54 : l5.far l4 := far_of_base (A := l5.A) (n := l5.n) o5 (lt4 _ (Nat.le_refl _))
    have f23 : l2.far l3 := hf
    simp only [List.pairwise_cons, List.mem_cons, List.not_mem_nil, or_false, forall_eq_or_imp, forall_eq, List.Pairwise.nil, and_true, false_implies, implies_true]
    exact ⟨⟨f12, f13, f14, f15⟩, ⟨f23, f24, f25⟩, ⟨f34, f35⟩, Lst.far_symm f54⟩

set_option maxHeartbeats 2000000 in
theorem walk_big_none (A0 : Option Addr) (n0 c0 : Nat) (bs0 : List UInt8) (A1 : Option Addr) (n1 c1 : Nat) (bs1 : List UInt8) (w : World) (w0 : SlB w w.heap.size A0 n0 c0 bs0) (w1 : SlB w w.heap.size A1 n1 c1 bs1) (h0 : n0 ≤ 65536) (h1 : n1 ≤ 131072)
    (hB : 65535 < n1) (hm : rowLen bs1 = none) :
    Calls Try.prog 10 #[.slice A0 n0 c0, .slice A1 n1 c1] w fun e w' => e = .returned (.bool true) ∧ Below w.heap.size w w' := by
  have hi0 : (n0 : Int) ≤ 65536 := by omega
  have hi1 : (n1 : Int) ≤ 131072 := by omega
  have hib : (65535 : Int) < (n1 : Int) := by omega
  have W0 := Lib.hid w0
  have W1 := Lib.hid w1
  have HM := Lib.hid hm
  clear w0 w1 hm
  go_enter Try.func10, Try.ntmps10
  go_wp2_with fail
  refine (copy_c W0.out (Nat.le_refl _) (by omega)).mono ?_
  rintro e wa ⟨rfl, hoa, hba⟩
  have hza := hba.size
  have HOA := Lib.hid hoa
  clear hoa
  go_wp2_with fail
  refine (copy_c (W1.out.below hba) hza (by omega)).mono ?_
  rintro e wb ⟨rfl, hob, hbb⟩
  have hzb := hbb.size
  have hbw : Below w.heap.size w wb := hba.trans (hbb.mono hza)
  have HOB := Lib.hid hob
  have HA0 := Lib.hid (copy_own (HOA.out.below hbb) W0.out.len)
  have HB0 := Lib.hid (copy_own hob W1.out.len)
  clear hob
  go_wp2_with fail
  refine (row_big (by omega) (by omega)).mono ?_
  rintro e wr ⟨rfl, rfl⟩
  obtain ⟨wr, hwr⟩ : ∃ wr, wr = wb := ⟨wb, rfl⟩
  have hbr : Below wb.heap.size wb wr := by rw [hwr]; exact Below.refl _ _
  have HR := Lib.hid (show OwB wr wb.heap.size none 0 0 [] from OwB.nil _ _ _)
  rw [← hwr]
  clear hwr
  have hzr := hbr.size
  go_wp2_with fail
  refine (takerow_none (HB0.out.below hbr).sl HM.out).mono ?_
  rintro e wt ⟨rfl, d, hwt⟩
  have hbt : Below wr.heap.size wr wt := by rw [hwt]; exact below_drewN (Below.refl _ _) d
  clear hwt
  have hzt := hbt.size
  have hwt : Below w.heap.size w wt := hbw.trans ((hbr.trans (hbt.mono hzr)).mono (Nat.le_trans hza hzb))
  go_wp2_with fail
  refine (kept_c (((HOA.out.below hbb).below hbr).below hbt).sl (W0.out.below hwt) (by omega)).mono ?_
  rintro e w' ⟨rfl, rfl⟩
  go_wp2_with fail
  refine (kept_c ((HOB.out.below hbr).below hbt).sl (W1.out.below hwt) (by omega)).mono ?_
  rintro e w' ⟨rfl, rfl⟩
  have hcv := Lib.run_convert_bytes_const (P := Try.prog) wt 25 5 #[.int .u8 97, .int .u8 98] 2 2 Try.underlying25 Try.underlying5
  simp only [List.size_toArray, List.length_cons, List.length_nil, Nat.reduceAdd] at hcv
  go_wp2_with fail
  refine (row_ok (SlB.nil _ 0 none) (Nat.zero_le _) (slb_mark wt) (by simp) (by omega) (by omega)).mono ?_
  rintro e w6 ⟨A6, c6, rfl, ho6, hb6⟩
  have hbl : Below wt.heap.size wt w6 := ((Below.refl wt.heap.size wt).alloc (Nat.le_refl _) _).trans (hb6.mono (by simp))
  have hz6 := hbl.size
  have hw6 : Below w.heap.size w w6 := hwt.trans (hbl.mono (hwt.size))
  have e6 := ho6.sl.str
  rw [show ([] : List UInt8) ++ (head2 2 ++ [97, 98]) = [0, 2, 97, 98] from rfl] at e6
  simp only [Nat.zero_add] at e6
  clear ho6 hb6
  go_wp2_with fail
  refine (is_err 1 1 rfl true rfl _).mono ?_
  rintro e w' ⟨rfl, rfl⟩
  go_wp2_with fail
  obtain ⟨w7, hw7⟩ : ∃ w7, w7 = w6 := ⟨w6, rfl⟩
  have hb7 : Below w6.heap.size w6 w7 := by rw [hw7]; exact Below.refl _ _
  rw [← hw7]
  clear hw7
  have hz7 := hb7.size
  have hw7 : Below w.heap.size w w7 := hw6.trans (hb7.mono hw6.size)
  refine (refrows_c (W1.out.below hw7) hw7.size (by omega)).mono ?_
  rintro e w8 ⟨A8, c8, ls, rfl, hrow, hreads, hb8⟩
  have hw8 : Below w.heap.size w w8 := hw7.trans (hb8.mono hw7.size)
  rw [rowsOf_none HM.out]
  go_wp2_with fail
  refine (is_err 2 2 rfl true rfl _).mono ?_
  rintro e w' ⟨rfl, rfl⟩
  go_wp2_with fail
  go_ret
  exact ⟨rfl, hw8⟩

set_option maxHeartbeats 2000000 in
theorem walk_big_some (A0 : Option Addr) (n0 c0 : Nat) (bs0 : List UInt8) (A1 : Option Addr) (n1 c1 : Nat) (bs1 : List UInt8) (w : World) (w0 : SlB w w.heap.size A0 n0 c0 bs0) (w1 : SlB w w.heap.size A1 n1 c1 bs1) (h0 : n0 ≤ 65536) (h1 : n1 ≤ 131072)
    (hB : 65535 < n1) (m : Nat) (hm : rowLen bs1 = some m) :
    Calls Try.prog 10 #[.slice A0 n0 c0, .slice A1 n1 c1] w fun e w' => e = .returned (.bool true) ∧ Below w.heap.size w w' := by
  have hi0 : (n0 : Int) ≤ 65536 := by omega
  have hi1 : (n1 : Int) ≤ 131072 := by omega
  have hib : (65535 : Int) < (n1 : Int) := by omega
  have hmm := rowLen_some hm
  have hml : 2 + m ≤ n1 := by have := hmm.1; have := w1.len; omega
  clear hmm
  have W0 := Lib.hid w0
  have W1 := Lib.hid w1
  have HM := Lib.hid hm
  clear w0 w1 hm
  go_enter Try.func10, Try.ntmps10
  go_wp2_with fail
  refine (copy_c W0.out (Nat.le_refl _) (by omega)).mono ?_
  rintro e wa ⟨rfl, hoa, hba⟩
  have hza := hba.size
  have HOA := Lib.hid hoa
  clear hoa
  go_wp2_with fail
  refine (copy_c (W1.out.below hba) hza (by omega)).mono ?_
  rintro e wb ⟨rfl, hob, hbb⟩
  have hzb := hbb.size
  have hbw : Below w.heap.size w wb := hba.trans (hbb.mono hza)
  have HOB := Lib.hid hob
  have HA0 := Lib.hid (copy_own (HOA.out.below hbb) W0.out.len)
  have HB0 := Lib.hid (copy_own hob W1.out.len)
  clear hob
  go_wp2_with fail
  refine (row_big (by omega) (by omega)).mono ?_
  rintro e wr ⟨rfl, rfl⟩
  obtain ⟨wr, hwr⟩ : ∃ wr, wr = wb := ⟨wb, rfl⟩
  have hbr : Below wb.heap.size wb wr := by rw [hwr]; exact Below.refl _ _
  have HR := Lib.hid (show OwB wr wb.heap.size none 0 0 [] from OwB.nil _ _ _)
  rw [← hwr]
  clear hwr
  have hzr := hbr.size
  go_wp2_with fail
  refine (takerow_some (HB0.out.below hbr).sl (Nat.le_refl _) (by omega) HM.out).mono ?_
  rintro e wt ⟨A4, c4, A5, c5, rfl, ho4, ho5, hf45, hbt⟩
  have HO4 := Lib.hid ho4
  have HO5 := Lib.hid ho5
  have HF := Lib.hid hf45
  clear ho4 ho5 hf45
  have hzt := hbt.size
  have hwt : Below w.heap.size w wt := hbw.trans ((hbr.trans (hbt.mono hzr)).mono (Nat.le_trans hza hzb))
  go_wp2_with fail
  refine (kept_c (((HOA.out.below hbb).below hbr).below hbt).sl (W0.out.below hwt) (by omega)).mono ?_
  rintro e w' ⟨rfl, rfl⟩
  go_wp2_with fail
  refine (kept_c ((HOB.out.below hbr).below hbt).sl (W1.out.below hwt) (by omega)).mono ?_
  rintro e w' ⟨rfl, rfl⟩
  have hcv := Lib.run_convert_bytes_const (P := Try.prog) wt 25 5 #[.int .u8 97, .int .u8 98] 2 2 Try.underlying25 Try.underlying5
  simp only [List.size_toArray, List.length_cons, List.length_nil, Nat.reduceAdd] at hcv
  go_wp2_with fail
  refine (row_ok (SlB.nil _ 0 none) (Nat.zero_le _) (slb_mark wt) (by simp) (by omega) (by omega)).mono ?_
  rintro e w6 ⟨A6, c6, rfl, ho6, hb6⟩
  have hbl : Below wt.heap.size wt w6 := ((Below.refl wt.heap.size wt).alloc (Nat.le_refl _) _).trans (hb6.mono (by simp))
  have hz6 := hbl.size
  have hw6 : Below w.heap.size w w6 := hwt.trans (hbl.mono (hwt.size))
  have e6 := ho6.sl.str
  rw [show ([] : List UInt8) ++ (head2 2 ++ [97, 98]) = [0, 2, 97, 98] from rfl] at e6
  simp only [Nat.zero_add] at e6
  clear ho6 hb6
  go_wp2_with fail
  refine (is_err 1 1 rfl true rfl _).mono ?_
  rintro e w' ⟨rfl, rfl⟩
  go_wp2_with fail
  obtain ⟨w7, hw7⟩ : ∃ w7, w7 = w6 := ⟨w6, rfl⟩
  have hb7 : Below w6.heap.size w6 w7 := by rw [hw7]; exact Below.refl _ _
  rw [← hw7]
  clear hw7
  have hz7 := hb7.size
  have hw7 : Below w.heap.size w w7 := hw6.trans (hb7.mono hw6.size)
  refine (refrows_c (W1.out.below hw7) hw7.size (by omega)).mono ?_
  rintro e w8 ⟨A8, c8, ls, rfl, hrow, hreads, hb8⟩
  have hw8 : Below w.heap.size w w8 := hw7.trans (hb8.mono hw7.size)
  rw [rowsOf_some HM.out] at hrow hreads ⊢
  simp only [List.length_cons] at hrow ⊢
  obtain ⟨K, hK⟩ : ∃ K, K = (rowsOf (bs1.drop (2 + m))).length := ⟨_, rfl⟩
  rw [← hK] at hrow ⊢
  obtain ⟨⟨Al, nl, cl⟩, hl⟩ : ∃ l, ls[0]? = some l := ⟨ls[0]'(by rw [hreads.1]; simp), List.getElem?_eq_getElem _⟩
  have hl0 := hreads.2 0 _ _ hl rfl
  have hnl : nl = m := by have := hl0.len; have := W1.out.len; simp at *; omega
  simp only at hl0
  subst hnl
  have hKc := hrow.2.1
  obtain ⟨b, off, rfl, _, hj⟩ := hrow.sl.at_ (by omega)
  have hcl : w8.cell? ⟨b, off, none⟩ = some (.slice Al nl cl) := by
    have := hj 0 (Lst.val ⟨Al, nl, cl⟩) (by simp [hl])
    simpa [Lst.val] using this
  have hKi : (0 : Int) < (K : Int) + 1 := by omega
  have HL0 := Lib.hid hl0
  obtain ⟨AT, hAT, hslT⟩ := (W1.out.below hw8).tailRun (lo := 2 + nl) (by omega)
  have HAT := Lib.hid hAT
  rw [show ((2 + nl : Nat) : Int) = 2 + (nl : Int) from by omega] at hslT
  clear hl0 hj hAT hl hreads
  have hzw8 := hw8.size
  have hz0 : ∀ g, wrote (some (⟨w.heap.size, 0, none⟩ : Addr)) (n0 + 2) = some g → g < wa.heap.size := wrote_below HOA.out (Nat.le_refl _)
  have hz01 : ∀ g, wrote (some (⟨wa.heap.size, 0, none⟩ : Addr)) (n1 + 2) = some g → g < wb.heap.size := wrote_below HOB.out (Nat.le_refl _)
  go_wp2_with fail
  refine (same_c ((((HO4.out.below hbl).below hb7).below hb8)).sl HL0.out true (by simp)).mono ?_
  rintro e w' ⟨rfl, rfl⟩
  go_wp2_with fail
  refine (same_c ((((HO5.out.below hbl).below hb7).below hb8)).sl HAT.out true (by simp)).mono ?_
  rintro e w' ⟨rfl, rfl⟩
  go_wp2_with fail
  refine (apart5 (l1 := ⟨none, 0, 0⟩) (l2 := ⟨A4, nl, c4⟩) (l3 := ⟨A5, n1 - (2 + nl), c5⟩) (l4 := ⟨some ⟨w.heap.size, 0, none⟩, n0, n0 + 2⟩) (l5 := ⟨some ⟨wa.heap.size, 0, none⟩, n1, n1 + 2⟩) hza hzb hzr hz0 hz01
    HR.out HO4.out HO5.out HA0.out HB0.out HF.out hbr hbt (hbl.trans ((hb7.trans (hb8.mono hz7)).mono hz6)) (by simp only; omega) (by simp only; omega) (by simp only; omega) (by simp only; omega) (by simp only; omega)).mono ?_
  rintro e w9 ⟨rfl, hb9⟩
  go_wp2_with fail
  go_ret
  exact ⟨rfl, (hw8.alloc hzw8 _).trans hb9⟩

set_option maxHeartbeats 2000000 in
theorem walk_ok_none (A0 : Option Addr) (n0 c0 : Nat) (bs0 : List UInt8) (A1 : Option Addr) (n1 c1 : Nat) (bs1 : List UInt8) (w : World) (w0 : SlB w w.heap.size A0 n0 c0 bs0) (w1 : SlB w w.heap.size A1 n1 c1 bs1) (h0 : n0 ≤ 65536) (h1 : n1 ≤ 131072)
    (hB : n1 ≤ 65535) (hm : rowLen bs1 = none) :
    Calls Try.prog 10 #[.slice A0 n0 c0, .slice A1 n1 c1] w fun e w' => e = .returned (.bool true) ∧ Below w.heap.size w w' := by
  have hi0 : (n0 : Int) ≤ 65536 := by omega
  have hi1 : (n1 : Int) ≤ 131072 := by omega
  have hib : (n1 : Int) ≤ 65535 := by omega
  have W0 := Lib.hid w0
  have W1 := Lib.hid w1
  have HM := Lib.hid hm
  clear w0 w1 hm
  go_enter Try.func10, Try.ntmps10
  go_wp2_with fail
  refine (copy_c W0.out (Nat.le_refl _) (by omega)).mono ?_
  rintro e wa ⟨rfl, hoa, hba⟩
  have hza := hba.size
  have HOA := Lib.hid hoa
  clear hoa
  go_wp2_with fail
  refine (copy_c (W1.out.below hba) hza (by omega)).mono ?_
  rintro e wb ⟨rfl, hob, hbb⟩
  have hzb := hbb.size
  have hbw : Below w.heap.size w wb := hba.trans (hbb.mono hza)
  have HOB := Lib.hid hob
  have HA0 := Lib.hid (copy_own (HOA.out.below hbb) W0.out.len)
  have HB0 := Lib.hid (copy_own hob W1.out.len)
  clear hob
  go_wp2_with fail
  refine (row_ok HA0.out.sl (Nat.le_refl _) HB0.out.sl (Nat.le_refl _) (by omega) (by omega)).mono ?_
  rintro e wr ⟨A3, c3, rfl, hor, hbr⟩
  have HR := Lib.hid hor
  clear hor
  have hzr := hbr.size
  go_wp2_with fail
  refine (takerow_none (HB0.out.below hbr).sl HM.out).mono ?_
  rintro e wt ⟨rfl, d, hwt⟩
  have hbt : Below wr.heap.size wr wt := by rw [hwt]; exact below_drewN (Below.refl _ _) d
  clear hwt
  have hzt := hbt.size
  have hwt : Below w.heap.size w wt := hbw.trans ((hbr.trans (hbt.mono hzr)).mono (Nat.le_trans hza hzb))
  go_wp2_with fail
  refine (kept_c (((HOA.out.below hbb).below hbr).below hbt).sl (W0.out.below hwt) (by omega)).mono ?_
  rintro e w' ⟨rfl, rfl⟩
  go_wp2_with fail
  refine (kept_c ((HOB.out.below hbr).below hbt).sl (W1.out.below hwt) (by omega)).mono ?_
  rintro e w' ⟨rfl, rfl⟩
  have hcv := Lib.run_convert_bytes_const (P := Try.prog) wt 25 5 #[.int .u8 97, .int .u8 98] 2 2 Try.underlying25 Try.underlying5
  simp only [List.size_toArray, List.length_cons, List.length_nil, Nat.reduceAdd] at hcv
  go_wp2_with fail
  refine (row_ok (SlB.nil _ 0 none) (Nat.zero_le _) (slb_mark wt) (by simp) (by omega) (by omega)).mono ?_
  rintro e w6 ⟨A6, c6, rfl, ho6, hb6⟩
  have hbl : Below wt.heap.size wt w6 := ((Below.refl wt.heap.size wt).alloc (Nat.le_refl _) _).trans (hb6.mono (by simp))
  have hz6 := hbl.size
  have hw6 : Below w.heap.size w w6 := hwt.trans (hbl.mono (hwt.size))
  have e6 := ho6.sl.str
  rw [show ([] : List UInt8) ++ (head2 2 ++ [97, 98]) = [0, 2, 97, 98] from rfl] at e6
  simp only [Nat.zero_add] at e6
  clear ho6 hb6
  go_wp2_with fail
  have HR6 := Lib.hid ((HR.out.below hbt).below hbl)
  obtain ⟨S0, hS0⟩ : ∃ S0 : ByteArray, S0 = ⟨bs0.toArray⟩ := ⟨_, rfl⟩
  obtain ⟨SW, hSW⟩ : ∃ SW : ByteArray, SW = ⟨(head2 n1 ++ bs1).toArray⟩ := ⟨_, rfl⟩
  have hcc : (⟨(bs0 ++ (head2 n1 ++ bs1)).toArray⟩ : ByteArray) = S0 ++ SW := by
    subst hS0 hSW
    apply ByteArray.ext
    simp [ByteArray.data_append]
  have hsz : S0.size + SW.size ≤ 9223372036854775807 := by
    subst hS0 hSW
    have l0 := W0.out.len
    have l1 := W1.out.len
    show bs0.toArray.size + (head2 n1 ++ bs1).toArray.size ≤ _
    simp only [List.size_toArray, List.length_append, head2, List.length_cons, List.length_nil]
    omega
  have hcat : ∀ W, (Op.stringOp .add S0 SW).run Try.prog W = .ok (.string (S0 ++ SW)) W := fun W => run_string_add_sum W S0 SW hsz
  have hsz2 : ¬ (9223372036854775807 < S0.size + SW.size) := by omega
  have hsz3 : ¬ ((9223372036854775807 : Int) < (S0.size : Int) + (SW.size : Int)) := by omega
  have HS0 := Lib.hid hS0
  have HSW := Lib.hid hSW
  have HCC := Lib.hid hcc
  clear hS0 hSW hcc
  have hS : ∀ W, Below w6.heap.size w6 W → (Below w6.heap.size w6 W ∧ (convert 25 9 (.slice A3 (n0 + 2 + n1) c3)).run Try.prog W = .ok (.string (S0 ++ SW)) W ∧ (convert 25 9 (.slice A0 n0 c0)).run Try.prog W = .ok (.string S0) W) := fun W hW =>
    ⟨hW, by rw [← HCC.out]; exact (HR6.out.below hW).sl.str, by rw [HS0.out]; exact (W0.out.below (hw6.trans (hW.mono hw6.size))).str⟩
  have hcall : ∀ W, Below w6.heap.size w6 W → Calls Try.prog 33 #[.slice A1 n1 c1] W fun e w' => ∃ A7 c7, e = .returned (.slice A7 (2 + n1) c7) ∧ Below w6.heap.size w6 w' ∧ (convert 25 9 (.slice A7 (2 + n1) c7)).run Try.prog w' = .ok (.string SW) w' ∧
      (convert 25 9 (.slice A7 (2 + n1) c7)).run Try.prog w'.drew = .ok (.string SW) w'.drew := fun W hW => by
    refine (refrow_ok (W1.out.below (hw6.trans (hW.mono hw6.size))) (Nat.le_trans hw6.size hW.size) hB).mono ?_
    rintro e w' ⟨A7, c7, rfl, ho, hb⟩
    exact ⟨A7, c7, rfl, hW.trans (hb.mono hW.size), by rw [HSW.out]; exact ho.sl.str, by rw [HSW.out]; exact (SlB.drewN ho.sl 1).str⟩
  go_region_held_law (fun W => Below w6.heap.size w6 W ∧ (convert 25 9 (.slice A3 (n0 + 2 + n1) c3)).run Try.prog W = .ok (.string (S0 ++ SW)) W ∧ (convert 25 9 (.slice A0 n0 c0)).run Try.prog W = .ok (.string S0) W)
    (first | exact hS _ (by assumption) | exact hS _ (Below.refl _ _) | exact hS _ (below_drewN (Below.refl _ _) _) | exact hS _ (below_drewN (by assumption) _) | exact hS _ (below_drewN (Below.refl _ _) 1) | exact hS _ (below_drewN (by assumption) 1))
    (first | (go_at_call 33; refine (hcall _ ?_).mono ?_; (first | assumption | exact Below.refl _ _ | exact below_drewN (Below.refl _ _) 1 | exact below_drewN (by assumption) 1 | exact below_drewN (Below.refl _ _) _); rintro e w7 ⟨A7, c7, rfl, hb7, s7, s7d⟩))
  go_wp2_with fail
  have hz7 := hb7.size
  have hw7 : Below w.heap.size w w7 := hw6.trans (hb7.mono hw6.size)
  refine (refrows_c (W1.out.below hw7) hw7.size (by omega)).mono ?_
  rintro e w8 ⟨A8, c8, ls, rfl, hrow, hreads, hb8⟩
  have hw8 : Below w.heap.size w w8 := hw7.trans (hb8.mono hw7.size)
  rw [rowsOf_none HM.out]
  go_wp2_with fail
  refine (is_err 2 2 rfl true rfl _).mono ?_
  rintro e w' ⟨rfl, rfl⟩
  go_wp2_with fail
  go_ret
  exact ⟨rfl, hw8⟩

set_option maxHeartbeats 2000000 in
theorem walk_ok_some (A0 : Option Addr) (n0 c0 : Nat) (bs0 : List UInt8) (A1 : Option Addr) (n1 c1 : Nat) (bs1 : List UInt8) (w : World) (w0 : SlB w w.heap.size A0 n0 c0 bs0) (w1 : SlB w w.heap.size A1 n1 c1 bs1) (h0 : n0 ≤ 65536) (h1 : n1 ≤ 131072)
    (hB : n1 ≤ 65535) (m : Nat) (hm : rowLen bs1 = some m) :
    Calls Try.prog 10 #[.slice A0 n0 c0, .slice A1 n1 c1] w fun e w' => e = .returned (.bool true) ∧ Below w.heap.size w w' := by
  have hi0 : (n0 : Int) ≤ 65536 := by omega
  have hi1 : (n1 : Int) ≤ 131072 := by omega
  have hib : (n1 : Int) ≤ 65535 := by omega
  have hmm := rowLen_some hm
  have hml : 2 + m ≤ n1 := by have := hmm.1; have := w1.len; omega
  clear hmm
  have W0 := Lib.hid w0
  have W1 := Lib.hid w1
  have HM := Lib.hid hm
  clear w0 w1 hm
  go_enter Try.func10, Try.ntmps10
  go_wp2_with fail
  refine (copy_c W0.out (Nat.le_refl _) (by omega)).mono ?_
  rintro e wa ⟨rfl, hoa, hba⟩
  have hza := hba.size
  have HOA := Lib.hid hoa
  clear hoa
  go_wp2_with fail
  refine (copy_c (W1.out.below hba) hza (by omega)).mono ?_
  rintro e wb ⟨rfl, hob, hbb⟩
  have hzb := hbb.size
  have hbw : Below w.heap.size w wb := hba.trans (hbb.mono hza)
  have HOB := Lib.hid hob
  have HA0 := Lib.hid (copy_own (HOA.out.below hbb) W0.out.len)
  have HB0 := Lib.hid (copy_own hob W1.out.len)
  clear hob
  go_wp2_with fail
  refine (row_ok HA0.out.sl (Nat.le_refl _) HB0.out.sl (Nat.le_refl _) (by omega) (by omega)).mono ?_
  rintro e wr ⟨A3, c3, rfl, hor, hbr⟩
  have HR := Lib.hid hor
  clear hor
  have hzr := hbr.size
  go_wp2_with fail
  refine (takerow_some (HB0.out.below hbr).sl (Nat.le_refl _) (by omega) HM.out).mono ?_
  rintro e wt ⟨A4, c4, A5, c5, rfl, ho4, ho5, hf45, hbt⟩
  have HO4 := Lib.hid ho4
  have HO5 := Lib.hid ho5
  have HF := Lib.hid hf45
  clear ho4 ho5 hf45
  have hzt := hbt.size
  have hwt : Below w.heap.size w wt := hbw.trans ((hbr.trans (hbt.mono hzr)).mono (Nat.le_trans hza hzb))
  go_wp2_with fail
  refine (kept_c (((HOA.out.below hbb).below hbr).below hbt).sl (W0.out.below hwt) (by omega)).mono ?_
  rintro e w' ⟨rfl, rfl⟩
  go_wp2_with fail
  refine (kept_c ((HOB.out.below hbr).below hbt).sl (W1.out.below hwt) (by omega)).mono ?_
  rintro e w' ⟨rfl, rfl⟩
  have hcv := Lib.run_convert_bytes_const (P := Try.prog) wt 25 5 #[.int .u8 97, .int .u8 98] 2 2 Try.underlying25 Try.underlying5
  simp only [List.size_toArray, List.length_cons, List.length_nil, Nat.reduceAdd] at hcv
  go_wp2_with fail
  refine (row_ok (SlB.nil _ 0 none) (Nat.zero_le _) (slb_mark wt) (by simp) (by omega) (by omega)).mono ?_
  rintro e w6 ⟨A6, c6, rfl, ho6, hb6⟩
  have hbl : Below wt.heap.size wt w6 := ((Below.refl wt.heap.size wt).alloc (Nat.le_refl _) _).trans (hb6.mono (by simp))
  have hz6 := hbl.size
  have hw6 : Below w.heap.size w w6 := hwt.trans (hbl.mono (hwt.size))
  have e6 := ho6.sl.str
  rw [show ([] : List UInt8) ++ (head2 2 ++ [97, 98]) = [0, 2, 97, 98] from rfl] at e6
  simp only [Nat.zero_add] at e6
  clear ho6 hb6
  go_wp2_with fail
  have HR6 := Lib.hid ((HR.out.below hbt).below hbl)
  obtain ⟨S0, hS0⟩ : ∃ S0 : ByteArray, S0 = ⟨bs0.toArray⟩ := ⟨_, rfl⟩
  obtain ⟨SW, hSW⟩ : ∃ SW : ByteArray, SW = ⟨(head2 n1 ++ bs1).toArray⟩ := ⟨_, rfl⟩
  have hcc : (⟨(bs0 ++ (head2 n1 ++ bs1)).toArray⟩ : ByteArray) = S0 ++ SW := by
    subst hS0 hSW
    apply ByteArray.ext
    simp [ByteArray.data_append]
  have hsz : S0.size + SW.size ≤ 9223372036854775807 := by
    subst hS0 hSW
    have l0 := W0.out.len
    have l1 := W1.out.len
    show bs0.toArray.size + (head2 n1 ++ bs1).toArray.size ≤ _
    simp only [List.size_toArray, List.length_append, head2, List.length_cons, List.length_nil]
    omega
  have hcat : ∀ W, (Op.stringOp .add S0 SW).run Try.prog W = .ok (.string (S0 ++ SW)) W := fun W => run_string_add_sum W S0 SW hsz
  have hsz2 : ¬ (9223372036854775807 < S0.size + SW.size) := by omega
  have hsz3 : ¬ ((9223372036854775807 : Int) < (S0.size : Int) + (SW.size : Int)) := by omega
  have HS0 := Lib.hid hS0
  have HSW := Lib.hid hSW
  have HCC := Lib.hid hcc
  clear hS0 hSW hcc
  have hS : ∀ W, Below w6.heap.size w6 W → (Below w6.heap.size w6 W ∧ (convert 25 9 (.slice A3 (n0 + 2 + n1) c3)).run Try.prog W = .ok (.string (S0 ++ SW)) W ∧ (convert 25 9 (.slice A0 n0 c0)).run Try.prog W = .ok (.string S0) W) := fun W hW =>
    ⟨hW, by rw [← HCC.out]; exact (HR6.out.below hW).sl.str, by rw [HS0.out]; exact (W0.out.below (hw6.trans (hW.mono hw6.size))).str⟩
  have hcall : ∀ W, Below w6.heap.size w6 W → Calls Try.prog 33 #[.slice A1 n1 c1] W fun e w' => ∃ A7 c7, e = .returned (.slice A7 (2 + n1) c7) ∧ Below w6.heap.size w6 w' ∧ (convert 25 9 (.slice A7 (2 + n1) c7)).run Try.prog w' = .ok (.string SW) w' ∧
      (convert 25 9 (.slice A7 (2 + n1) c7)).run Try.prog w'.drew = .ok (.string SW) w'.drew := fun W hW => by
    refine (refrow_ok (W1.out.below (hw6.trans (hW.mono hw6.size))) (Nat.le_trans hw6.size hW.size) hB).mono ?_
    rintro e w' ⟨A7, c7, rfl, ho, hb⟩
    exact ⟨A7, c7, rfl, hW.trans (hb.mono hW.size), by rw [HSW.out]; exact ho.sl.str, by rw [HSW.out]; exact (SlB.drewN ho.sl 1).str⟩
  go_region_held_law (fun W => Below w6.heap.size w6 W ∧ (convert 25 9 (.slice A3 (n0 + 2 + n1) c3)).run Try.prog W = .ok (.string (S0 ++ SW)) W ∧ (convert 25 9 (.slice A0 n0 c0)).run Try.prog W = .ok (.string S0) W)
    (first | exact hS _ (by assumption) | exact hS _ (Below.refl _ _) | exact hS _ (below_drewN (Below.refl _ _) _) | exact hS _ (below_drewN (by assumption) _) | exact hS _ (below_drewN (Below.refl _ _) 1) | exact hS _ (below_drewN (by assumption) 1))
    (first | (go_at_call 33; refine (hcall _ ?_).mono ?_; (first | assumption | exact Below.refl _ _ | exact below_drewN (Below.refl _ _) 1 | exact below_drewN (by assumption) 1 | exact below_drewN (Below.refl _ _) _); rintro e w7 ⟨A7, c7, rfl, hb7, s7, s7d⟩))
  go_wp2_with fail
  have hz7 := hb7.size
  have hw7 : Below w.heap.size w w7 := hw6.trans (hb7.mono hw6.size)
  refine (refrows_c (W1.out.below hw7) hw7.size (by omega)).mono ?_
  rintro e w8 ⟨A8, c8, ls, rfl, hrow, hreads, hb8⟩
  have hw8 : Below w.heap.size w w8 := hw7.trans (hb8.mono hw7.size)
  rw [rowsOf_some HM.out] at hrow hreads ⊢
  simp only [List.length_cons] at hrow ⊢
  obtain ⟨K, hK⟩ : ∃ K, K = (rowsOf (bs1.drop (2 + m))).length := ⟨_, rfl⟩
  rw [← hK] at hrow ⊢
  obtain ⟨⟨Al, nl, cl⟩, hl⟩ : ∃ l, ls[0]? = some l := ⟨ls[0]'(by rw [hreads.1]; simp), List.getElem?_eq_getElem _⟩
  have hl0 := hreads.2 0 _ _ hl rfl
  have hnl : nl = m := by have := hl0.len; have := W1.out.len; simp at *; omega
  simp only at hl0
  subst hnl
  have hKc := hrow.2.1
  obtain ⟨b, off, rfl, _, hj⟩ := hrow.sl.at_ (by omega)
  have hcl : w8.cell? ⟨b, off, none⟩ = some (.slice Al nl cl) := by
    have := hj 0 (Lst.val ⟨Al, nl, cl⟩) (by simp [hl])
    simpa [Lst.val] using this
  have hKi : (0 : Int) < (K : Int) + 1 := by omega
  have HL0 := Lib.hid hl0
  obtain ⟨AT, hAT, hslT⟩ := (W1.out.below hw8).tailRun (lo := 2 + nl) (by omega)
  have HAT := Lib.hid hAT
  rw [show ((2 + nl : Nat) : Int) = 2 + (nl : Int) from by omega] at hslT
  clear hl0 hj hAT hl hreads
  have hzw8 := hw8.size
  have hz0 : ∀ g, wrote (some (⟨w.heap.size, 0, none⟩ : Addr)) (n0 + 2) = some g → g < wa.heap.size := wrote_below HOA.out (Nat.le_refl _)
  have hz01 : ∀ g, wrote (some (⟨wa.heap.size, 0, none⟩ : Addr)) (n1 + 2) = some g → g < wb.heap.size := wrote_below HOB.out (Nat.le_refl _)
  go_wp2_with fail
  refine (same_c ((((HO4.out.below hbl).below hb7).below hb8)).sl HL0.out true (by simp)).mono ?_
  rintro e w' ⟨rfl, rfl⟩
  go_wp2_with fail
  refine (same_c ((((HO5.out.below hbl).below hb7).below hb8)).sl HAT.out true (by simp)).mono ?_
  rintro e w' ⟨rfl, rfl⟩
  go_wp2_with fail
  refine (apart5 (l1 := ⟨A3, (n0 + 2 + n1), c3⟩) (l2 := ⟨A4, nl, c4⟩) (l3 := ⟨A5, n1 - (2 + nl), c5⟩) (l4 := ⟨some ⟨w.heap.size, 0, none⟩, n0, n0 + 2⟩) (l5 := ⟨some ⟨wa.heap.size, 0, none⟩, n1, n1 + 2⟩) hza hzb hzr hz0 hz01
    HR.out HO4.out HO5.out HA0.out HB0.out HF.out hbr hbt (hbl.trans ((hb7.trans (hb8.mono hz7)).mono hz6)) (by simp only; omega) (by simp only; omega) (by simp only; omega) (by simp only; omega) (by simp only; omega)).mono ?_
  rintro e w9 ⟨rfl, hb9⟩
  go_wp2_with fail
  go_ret
  exact ⟨rfl, (hw8.alloc hzw8 _).trans hb9⟩

theorem walk (A0 : Option Addr) (n0 c0 : Nat) (bs0 : List UInt8) (A1 : Option Addr) (n1 c1 : Nat) (bs1 : List UInt8) (w : World) (w0 : SlB w w.heap.size A0 n0 c0 bs0) (y0 : c0 ≤ 140737488351232) (w1 : SlB w w.heap.size A1 n1 c1 bs1) (y1 : c1 ≤ 140737488351232) :
    Calls Try.prog 10 #[.slice A0 n0 c0, .slice A1 n1 c1] w fun e w' => e = .returned (.bool true) ∧ Below w.heap.size w w' := by
  have m0 := w0.mx
  have m1 := w1.mx
  by_cases h0 : n0 ≤ 65536
  · by_cases h1 : n1 ≤ 131072
    · by_cases hB : 65535 < n1
      · cases hm : rowLen bs1 with
        | none => exact walk_big_none A0 n0 c0 bs0 A1 n1 c1 bs1 w w0 w1 h0 h1 hB hm
        | some m => exact walk_big_some A0 n0 c0 bs0 A1 n1 c1 bs1 w w0 w1 h0 h1 hB m hm
      · cases hm : rowLen bs1 with
        | none => exact walk_ok_none A0 n0 c0 bs0 A1 n1 c1 bs1 w w0 w1 h0 h1 (by omega) hm
        | some m => exact walk_ok_some A0 n0 c0 bs0 A1 n1 c1 bs1 w w0 w1 h0 h1 (by omega) m hm
    · have i0 : (n0 : Int) ≤ 65536 := by omega
      have i1 : (131072 : Int) < (n1 : Int) := by omega
      clear w0 w1 h0 h1
      go_enter Try.func10, Try.ntmps10
      go_wp2_with fail
      go_ret
      exact ⟨rfl, Below.refl _ _⟩
  · have i0 : (65536 : Int) < (n0 : Int) := by omega
    clear w0 w1 h0
    go_enter Try.func10, Try.ntmps10
    go_wp2_with fail
    go_ret
    exact ⟨rfl, Below.refl _ _⟩
end Go.Proofs.Ytjceikdkgghohaa.wordsRow
