/-
  MacEqual: which bytes are the same.
-/
import Derived.Test.YtbphoilfiahnpaaEqual
import Derived.Test.YtbphoilfiahnpaaNum
import Derived.Test.YtbphoilfiahnpaaByt3
namespace Go.Proofs.Ytbphoilfiahnpaa.macEqual
open Go.RowKit
set_option linter.unusedVariables false
set_option maxRecDepth 100000

set_option maxHeartbeats 1000000 in
theorem walk (A0 : Option Addr) (n0 c0 : Nat) (bs0 : List UInt8) (A1 : Option Addr) (n1 c1 : Nat) (bs1 : List UInt8) (a2 : Int) (w : World) (w0 : SlB w w.heap.size A0 n0 c0 bs0) (y0 : c0 ≤ 140737488351232)
    (w1 : SlB w w.heap.size A1 n1 c1 bs1) (y1 : c1 ≤ 140737488351232) (w2 : (Lit.int .i64 a2).wf = true) :
    Calls Try.prog 12 #[.slice A0 n0 c0, .slice A1 n1 c1, .int .i64 a2] w fun e w' => e = .returned (.bool true) ∧ Below w.heap.size w w' := by
  have hm0 := w0.mx
  have hx := i64_bd w2
  have hle := w0.le
  obtain ⟨r, hr⟩ : ∃ r, (bs0 == bs1) = r := ⟨_, rfl⟩
  have HR := Lib.hid hr
  have L1 := SlB.new w #[.int .u8 1] [1] 1 (Nat.lt_succ_self _) rfl (by simp [maxLen]) rfl
  have L2 := SlB.new (w.alloc (.cells #[.int .u8 1] 5)) #[.int .u8 1] [1] 1 (Nat.lt_succ_self _) rfl (by simp [maxLen]) rfl
  have hb3 : Below w.heap.size w ((w.alloc (.cells #[.int .u8 1] 5)).alloc (.cells #[.int .u8 1] 5)) := ((Below.refl _ _).alloc (Nat.le_refl _) _).alloc (by simp) _
  rw [World.size_alloc] at L2
  clear w2 hr
  cases r
  all_goals
    go_enter Try.func12, Try.ntmps12
    go_wp2_with fail
    refine (equal_c (L1.alloc (by simp) _) L2 true rfl).mono ?_
    rintro e w3 ⟨rfl, rfl⟩
    obtain ⟨w3, hw3⟩ : ∃ w3, w3 = (w.alloc (.cells #[.int .u8 1] 5)).alloc (.cells #[.int .u8 1] 5) := ⟨_, rfl⟩
    rw [← hw3] at hb3 ⊢
    clear hw3 L1 L2
    have hz3 := hb3.size
    have H0 := w0.below hb3
    have H1 := w1.below hb3
    have HH := Lib.hid H0.len
    go_wp2_with fail
    refine (equal_c H0 H1 _ HR.out).mono ?_
    rintro e w4 ⟨rfl, rfl⟩
    go_wp2_with fail
    refine (same_c H0 H1 _ HR.out).mono ?_
    rintro e w4 ⟨rfl, rfl⟩
    have h50 : OwB (w3.alloc (.cells #[] 5)) w3.heap.size (some ⟨w3.heap.size, 0, none⟩) 0 0 [] := OwB.nil _ _ _
    have h51 := H0.alloc hz3 (.cells #[] 5)
    go_wp2_with (at_builtin; refine wpList_append8W rfl (.tmp 23) (.tmp 24) rfl rfl h50 rfl h51 (by omega) (by simp) n0 (by omega) ?_; intro A6 c6 w6 h6 q6; have hb6 : Below w3.heap.size w3 w6 := q6.below h50 ((Below.refl _ _).alloc (Nat.le_refl _) _) (Nat.le_refl _) (by simp))
    have hb6w := hb3.trans (hb6.mono hz3)
    have hz6 := hb6w.size
    refine (equal_c (w0.below hb6w) h6.sl true (by simp)).mono ?_
    rintro e w7 ⟨rfl, rfl⟩
    by_cases hn : n0 = 0
    · have hn0 : ((n0 : Int) == 0) = true := by rw [beq_iff_eq]; omega
      go_wp2_with fail
      go_ret
      exact ⟨rfl, hb6w⟩
    have hn0 : ((n0 : Int) == 0) = false := by rw [beq_eq_false_iff_ne]; omega
    have hpos : 0 < n0 := by omega
    clear hn
    have h60 : OwB (w6.alloc (.cells #[] 5)) w6.heap.size (some ⟨w6.heap.size, 0, none⟩) 0 0 [] := OwB.nil _ _ _
    have h61 := (w0.below hb6w).alloc hz6 (.cells #[] 5)
    obtain ⟨u, hu⟩ : ∃ u : Nat, IntKind.u64.wrap a2 = (u : Int) := ⟨(IntKind.u64.wrap a2).toNat, by rw [Int.toNat_of_nonneg (wrap_u64_nonneg _)]⟩
    obtain ⟨m, hm⟩ : ∃ m : Nat, m = u % n0 := ⟨_, rfl⟩
    have hmn : m < n0 := by rw [hm]; exact Nat.mod_lt _ hpos
    have htm : ((u : Int)).tmod (n0 : Int) = (m : Int) := by rw [hm, Int.tmod_eq_emod_of_nonneg (by omega)]; rfl
    have hmd : ((u : Int)) % (n0 : Int) = (m : Int) := by rw [hm]; rfl
    clear hm
    have hmb : m < bs0.length := by rw [HH.out]; exact hmn
    go_wp2_with (at_builtin; refine wpList_append8 rfl (.tmp 32) (.tmp 33) rfl rfl h60 rfl h61 (by omega) (by simp) n0 (by omega) ?_; intro A7 c7 w7 h7 q7; have hb7 : Below w6.heap.size w6 w7 := q7.below h60 ((Below.refl _ _).alloc (Nat.le_refl _) _) (Nat.le_refl _) (by simp); have hle7 := h7.le; obtain ⟨g7, cur7, rfl, hg7, _⟩ := h7.open_ (by omega); have HC7 := h7.cellAt (j := m) (by simpa using hmb); have HF7 := h7.frozenAt (by omega) m; simp only [List.nil_append] at HC7)
    have hxr : bits .xor .u8 (bs0[m].toNat : Int) 64 = ((bs0[m] ^^^ 64).toNat : Int) := xor8 _ 64
    rw [hxr]
    clear hxr HC7 HF7
    have H8 := h7.set_ hmn (bs0[m] ^^^ 64)
    have hb8w : Below w.heap.size w (w7.setCell ⟨g7, m, none⟩ (.int .u8 ((bs0[m] ^^^ 64).toNat : Int))) := (hb6w.trans (hb7.mono hz6)).setCell (Nat.le_trans hz6 hg7) _
    simp only [List.nil_append] at H8
    have hne := set_ne hmb (x := bs0[m] ^^^ 64) (fun e => by
      have h := (u8_xor_zero (bs0[m] ^^^ 64) bs0[m]).2 e
      rw [UInt8.xor_comm bs0[m] 64, UInt8.xor_assoc, UInt8.xor_self, UInt8.xor_zero] at h
      cases h)
    have e1 : (bs0 == bs0.set m (bs0[m] ^^^ 64)) = false := by rw [beq_eq_false_iff_ne]; exact hne
    have e2 : (bs0.set m (bs0[m] ^^^ 64) == bs0) = false := by rw [beq_eq_false_iff_ne]; exact fun e => hne e.symm
    generalize bs0.set m (bs0[m] ^^^ 64) = bs8 at *
    generalize w7.setCell ⟨g7, m, none⟩ (.int .u8 ((bs0[m] ^^^ 64).toNat : Int)) = w8 at *
    have H9 := w0.below hb8w
    have E1 := Lib.hid e1
    have E2 := Lib.hid e2
    have hl8 := H8.len
    have HL8 := Lib.hid hl8
    obtain ⟨A9, H10, run10⟩ := H8.sl.tailRun (lo := 1) (by omega)
    have e3 : (bs0 == bs8.drop 1) = false := by
      rw [beq_eq_false_iff_ne]
      intro e
      have := congrArg List.length e
      rw [List.length_drop, HH.out, hl8] at this
      omega
    have E3 := Lib.hid e3
    have run10' : ∀ W, (Instr.sliceAt 31 (.slice (some ⟨g7, 0, none⟩) n0 c7) (some (.int .i64 1)) none none).run Try.prog W = .ok (.slice A9 (n0 - 1) (c7 - 1)) W := run10
    clear e1 e2 e3 hne hl8 run10 h7 h60 h61 q7 hb7 q6 h50 h51
    refine (equal_c H9 H8.sl _ E1.out).mono ?_
    rintro e w9 ⟨rfl, rfl⟩
    go_wp2_with fail
    refine (equal_c H8.sl H9 _ E2.out).mono ?_
    rintro e w9 ⟨rfl, rfl⟩
    go_wp2_with fail
    refine (equal_c H9 H10 _ E3.out).mono ?_
    rintro e w9 ⟨rfl, rfl⟩
    go_wp2_with fail
    go_ret
    exact ⟨rfl, hb8w⟩
end Go.Proofs.Ytbphoilfiahnpaa.macEqual
